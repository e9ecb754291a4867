/-
  DERIVED. GIVEN WITH THE SEED: THE CARDS: each row of YtabbjnamlkphmaaDoorRows.lean that lists a variable, with what it lists TIED to the program's text (the seventh form; the later family's looks); each row that meets fmt, with fmt's text TOLD by the authors' own Lean function (tested against real Go, not proved from fmt's source: count such statements apart). THE CARD IS WHAT COUNTS. Prove the row's statement (the work); the ties are given (YtabbjnamlkphmaaDoorTie.lean); close each card by the builder's one call (the guide's Derived/Test/ToyasCard.lean, 'card_holds'). Laid BY PROGRAM, IN A SANDBOX (cutbox-door.mjs). By AI agents, Wed Nov 11 2026. No macro, syntax, notation, axiom, sorry.
-/
import Derived.Test.YtabbjnamlkphmaaDoorRows
import GoSem.ClaimSeven
namespace Go.Proofs.YtabbjnamlkphmaaDoor
namespace Rows

/-- THE TIED CARD OF 'laws.FnExactInsOk'. -/
def fnExactInsOkCard : Claim7 := { stood := { row := fnExactInsOkRow, standIns := [], harness := (true, "028d24dd320b27b6c46a05199ebe84f8fff121ddae3ec7ca276d10def80d8688"), looks := false }, kinds := [], alts := [], laidByText := true, laidKinds := [.widerDeep], laidTests := true, laidLooks := .later }
def FnExactInsOkCardSaid : Prop := Claim7.holds Tryd.pinned (.plain (OpenSpec.ofChange fnExactInsOkSpec)) fnExactInsOkCard

/-- THE TIED CARD OF 'laws.FnExactInsPut'. -/
def fnExactInsPutCard : Claim7 := { stood := { row := fnExactInsPutRow, standIns := [], harness := (true, "028d24dd320b27b6c46a05199ebe84f8fff121ddae3ec7ca276d10def80d8688"), looks := false }, kinds := [], alts := [], laidByText := true, laidKinds := [.widerDeep], laidTests := true, laidLooks := .later }
def FnExactInsPutCardSaid : Prop := Claim7.holds Tryd.pinned (.plain (OpenSpec.ofChange fnExactInsPutSpec)) fnExactInsPutCard

/-- THE TIED CARD OF 'laws.FnExactInsTake'. -/
def fnExactInsTakeCard : Claim7 := { stood := { row := fnExactInsTakeRow, standIns := [], harness := (true, "028d24dd320b27b6c46a05199ebe84f8fff121ddae3ec7ca276d10def80d8688"), looks := false }, kinds := [], alts := [], laidByText := true, laidKinds := [.widerDeep], laidTests := true, laidLooks := .later }
def FnExactInsTakeCardSaid : Prop := Claim7.holds Tryd.pinned (.plain (OpenSpec.ofChange fnExactInsTakeSpec)) fnExactInsTakeCard

/-- THE TIED CARD OF 'laws.FnExactBlkOk'. -/
def fnExactBlkOkCard : Claim7 := { stood := { row := fnExactBlkOkRow, standIns := [], harness := (true, "028d24dd320b27b6c46a05199ebe84f8fff121ddae3ec7ca276d10def80d8688"), looks := false }, kinds := [], alts := [], laidByText := true, laidKinds := [.widerDeep], laidTests := true, laidLooks := .later }
def FnExactBlkOkCardSaid : Prop := Claim7.holds Tryd.pinned (.plain (OpenSpec.ofChange fnExactBlkOkSpec)) fnExactBlkOkCard

/-- THE TIED CARD OF 'laws.FnExactBlkWords'. -/
def fnExactBlkWordsCard : Claim7 := { stood := { row := fnExactBlkWordsRow, standIns := [], harness := (true, "028d24dd320b27b6c46a05199ebe84f8fff121ddae3ec7ca276d10def80d8688"), looks := false }, kinds := [], alts := [], laidByText := true, laidKinds := [.widerDeep], laidTests := true, laidLooks := .later }
def FnExactBlkWordsCardSaid : Prop := Claim7.holds Tryd.pinned (.plain (OpenSpec.ofChange fnExactBlkWordsSpec)) fnExactBlkWordsCard

/-- THE TIED CARD OF 'laws.FnInsTake'. -/
def fnInsTakeCard : Claim7 := { stood := { row := fnInsTakeRow, standIns := [], harness := (true, "028d24dd320b27b6c46a05199ebe84f8fff121ddae3ec7ca276d10def80d8688"), looks := false }, kinds := [], alts := [], laidByText := true, laidKinds := [.widerDeep], laidTests := true, laidLooks := .later }
def FnInsTakeCardSaid : Prop := Claim7.holds Tryd.pinned (.plain (OpenSpec.ofChange fnInsTakeSpec)) fnInsTakeCard

/-- THE TIED CARD OF 'laws.FnExactBlkTake'. -/
def fnExactBlkTakeCard : Claim7 := { stood := { row := fnExactBlkTakeRow, standIns := [], harness := (true, "028d24dd320b27b6c46a05199ebe84f8fff121ddae3ec7ca276d10def80d8688"), looks := false }, kinds := [], alts := [], laidByText := true, laidKinds := [.widerDeep], laidTests := true, laidLooks := .later }
def FnExactBlkTakeCardSaid : Prop := Claim7.holds Tryd.pinned (.plain (OpenSpec.ofChange fnExactBlkTakeSpec)) fnExactBlkTakeCard

/-- THE SECOND FORM's CARD OF 'laws.FnExactInsOk'. -/
def fnExactInsOkUptoCard : Claim7 := { stood := { row := fnExactInsOkUptoRow, standIns := [], harness := (true, "028d24dd320b27b6c46a05199ebe84f8fff121ddae3ec7ca276d10def80d8688"), looks := false }, kinds := [], alts := [], laidByText := true, laidKinds := [.widerDeep], laidTests := true, laidLooks := .later }
def FnExactInsOkUptoCardSaid : Prop := Claim7.holds Tryd.pinned (.plain (OpenSpec.upto fnExactInsOkSpec)) fnExactInsOkUptoCard

/-- THE SECOND FORM's CARD OF 'laws.FnExactInsPut'. -/
def fnExactInsPutUptoCard : Claim7 := { stood := { row := fnExactInsPutUptoRow, standIns := [], harness := (true, "028d24dd320b27b6c46a05199ebe84f8fff121ddae3ec7ca276d10def80d8688"), looks := false }, kinds := [], alts := [], laidByText := true, laidKinds := [.widerDeep], laidTests := true, laidLooks := .later }
def FnExactInsPutUptoCardSaid : Prop := Claim7.holds Tryd.pinned (.plain (OpenSpec.upto fnExactInsPutSpec)) fnExactInsPutUptoCard

/-- THE SECOND FORM's CARD OF 'laws.FnExactInsTake'. -/
def fnExactInsTakeUptoCard : Claim7 := { stood := { row := fnExactInsTakeUptoRow, standIns := [], harness := (true, "028d24dd320b27b6c46a05199ebe84f8fff121ddae3ec7ca276d10def80d8688"), looks := false }, kinds := [], alts := [], laidByText := true, laidKinds := [.widerDeep], laidTests := true, laidLooks := .later }
def FnExactInsTakeUptoCardSaid : Prop := Claim7.holds Tryd.pinned (.plain (OpenSpec.upto fnExactInsTakeSpec)) fnExactInsTakeUptoCard

/-- THE SECOND FORM's CARD OF 'laws.FnExactBlkOk'. -/
def fnExactBlkOkUptoCard : Claim7 := { stood := { row := fnExactBlkOkUptoRow, standIns := [], harness := (true, "028d24dd320b27b6c46a05199ebe84f8fff121ddae3ec7ca276d10def80d8688"), looks := false }, kinds := [], alts := [], laidByText := true, laidKinds := [.widerDeep], laidTests := true, laidLooks := .later }
def FnExactBlkOkUptoCardSaid : Prop := Claim7.holds Tryd.pinned (.plain (OpenSpec.upto fnExactBlkOkSpec)) fnExactBlkOkUptoCard

/-- THE SECOND FORM's CARD OF 'laws.FnExactBlkWords'. -/
def fnExactBlkWordsUptoCard : Claim7 := { stood := { row := fnExactBlkWordsUptoRow, standIns := [], harness := (true, "028d24dd320b27b6c46a05199ebe84f8fff121ddae3ec7ca276d10def80d8688"), looks := false }, kinds := [], alts := [], laidByText := true, laidKinds := [.widerDeep], laidTests := true, laidLooks := .later }
def FnExactBlkWordsUptoCardSaid : Prop := Claim7.holds Tryd.pinned (.plain (OpenSpec.upto fnExactBlkWordsSpec)) fnExactBlkWordsUptoCard

/-- THE SECOND FORM's CARD OF 'laws.FnInsTake'. -/
def fnInsTakeUptoCard : Claim7 := { stood := { row := fnInsTakeUptoRow, standIns := [], harness := (true, "028d24dd320b27b6c46a05199ebe84f8fff121ddae3ec7ca276d10def80d8688"), looks := false }, kinds := [], alts := [], laidByText := true, laidKinds := [.widerDeep], laidTests := true, laidLooks := .later }
def FnInsTakeUptoCardSaid : Prop := Claim7.holds Tryd.pinned (.plain (OpenSpec.upto fnInsTakeSpec)) fnInsTakeUptoCard

/-- THE SECOND FORM's CARD OF 'laws.FnExactBlkTake'. -/
def fnExactBlkTakeUptoCard : Claim7 := { stood := { row := fnExactBlkTakeUptoRow, standIns := [], harness := (true, "028d24dd320b27b6c46a05199ebe84f8fff121ddae3ec7ca276d10def80d8688"), looks := false }, kinds := [], alts := [], laidByText := true, laidKinds := [.widerDeep], laidTests := true, laidLooks := .later }
def FnExactBlkTakeUptoCardSaid : Prop := Claim7.holds Tryd.pinned (.plain (OpenSpec.upto fnExactBlkTakeSpec)) fnExactBlkTakeUptoCard
end Rows
end Go.Proofs.YtabbjnamlkphmaaDoor
