/-
  DERIVED. GIVEN WITH THE SEED: THE CARDS: each row of YtpmipopeoiojjaaDoorRows.lean that lists a variable, with what it lists TIED to the program's text (the seventh form; the later family's looks); each row that meets fmt, with fmt's text TOLD by the authors' own Lean function (tested against real Go, not proved from fmt's source: count such statements apart). THE CARD IS WHAT COUNTS. Prove the row's statement (the work); the ties are given (YtpmipopeoiojjaaDoorTie.lean); close each card by the builder's one call (the guide's Derived/Test/ToyasCard.lean, 'card_holds'). Laid BY PROGRAM, IN A SANDBOX (cutbox-door.mjs). By AI agents, Wed Nov 11 2026. No macro, syntax, notation, axiom, sorry.
-/
import Derived.Test.YtpmipopeoiojjaaDoorRows
import GoSem.ClaimSeven
namespace Go.Proofs.YtpmipopeoiojjaaDoor
namespace Rows

/-- THE TIED CARD OF 'laws.FnExactBlkWords'. -/
def fnExactBlkWordsCard : Claim7 := { stood := { row := fnExactBlkWordsRow, standIns := [], harness := (true, "019b561a7ba7a62f5878b5e5349c88fad8e02d22fd8606a45ed0852192b73ccd"), looks := false }, kinds := [], alts := [], laidByText := true, laidKinds := [.widerDeep], laidTests := true, laidLooks := .later }
def FnExactBlkWordsCardSaid : Prop := Claim7.holds Tryd.pinned (.plain (OpenSpec.ofChange fnExactBlkWordsSpec)) fnExactBlkWordsCard

/-- THE TIED CARD OF 'laws.FnExactBlkTake'. -/
def fnExactBlkTakeCard : Claim7 := { stood := { row := fnExactBlkTakeRow, standIns := [], harness := (true, "019b561a7ba7a62f5878b5e5349c88fad8e02d22fd8606a45ed0852192b73ccd"), looks := false }, kinds := [], alts := [], laidByText := true, laidKinds := [.widerDeep], laidTests := true, laidLooks := .later }
def FnExactBlkTakeCardSaid : Prop := Claim7.holds Tryd.pinned (.plain (OpenSpec.ofChange fnExactBlkTakeSpec)) fnExactBlkTakeCard

/-- THE SECOND FORM's CARD OF 'laws.FnExactBlkWords'. -/
def fnExactBlkWordsUptoCard : Claim7 := { stood := { row := fnExactBlkWordsUptoRow, standIns := [], harness := (true, "019b561a7ba7a62f5878b5e5349c88fad8e02d22fd8606a45ed0852192b73ccd"), looks := false }, kinds := [], alts := [], laidByText := true, laidKinds := [.widerDeep], laidTests := true, laidLooks := .later }
def FnExactBlkWordsUptoCardSaid : Prop := Claim7.holds Tryd.pinned (.plain (OpenSpec.upto fnExactBlkWordsSpec)) fnExactBlkWordsUptoCard

/-- THE SECOND FORM's CARD OF 'laws.FnExactBlkTake'. -/
def fnExactBlkTakeUptoCard : Claim7 := { stood := { row := fnExactBlkTakeUptoRow, standIns := [], harness := (true, "019b561a7ba7a62f5878b5e5349c88fad8e02d22fd8606a45ed0852192b73ccd"), looks := false }, kinds := [], alts := [], laidByText := true, laidKinds := [.widerDeep], laidTests := true, laidLooks := .later }
def FnExactBlkTakeUptoCardSaid : Prop := Claim7.holds Tryd.pinned (.plain (OpenSpec.upto fnExactBlkTakeSpec)) fnExactBlkTakeUptoCard
end Rows
end Go.Proofs.YtpmipopeoiojjaaDoor
