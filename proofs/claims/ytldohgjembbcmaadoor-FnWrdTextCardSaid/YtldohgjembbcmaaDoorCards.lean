/-
  DERIVED. GIVEN WITH THE SEED: THE CARDS: each row of YtldohgjembbcmaaDoorRows.lean that lists a variable, with what it lists TIED to the program's text (the seventh form; the later family's looks); each row that meets fmt, with fmt's text TOLD by the authors' own Lean function (tested against real Go, not proved from fmt's source: count such statements apart). THE CARD IS WHAT COUNTS. Prove the row's statement (the work); the ties are given (YtldohgjembbcmaaDoorTie.lean); close each card by the builder's one call (the guide's Derived/Test/ToyasCard.lean, 'card_holds'). Laid BY PROGRAM, IN A SANDBOX (cutbox-door.mjs). By AI agents, Wed Nov 11 2026. No macro, syntax, notation, axiom, sorry.
-/
import Derived.Test.YtldohgjembbcmaaDoorRows
import GoSem.ClaimSeven
namespace Go.Proofs.YtldohgjembbcmaaDoor
namespace Rows

/-- THE TIED CARD OF 'laws.FnExactWrdText'. -/
def fnExactWrdTextCard : Claim7 := { stood := { row := fnExactWrdTextRow, standIns := [], harness := (true, "c2b5080177348abbe4790c2dedd5dd6f8946262227f7d9de78cb07530c7fc03b"), looks := true }, kinds := [], alts := [], laidByText := true, laidKinds := [.data, .data, .data], laidTests := true, laidLooks := .later }
def FnExactWrdTextCardSaid : Prop := Claim7.holds Tryd.pinned (.plain (OpenSpec.ofChange fnExactWrdTextSpec)) fnExactWrdTextCard

/-- THE TIED CARD OF 'laws.FnExactWrdRead'. -/
def fnExactWrdReadCard : Claim7 := { stood := { row := fnExactWrdReadRow, standIns := [], harness := (true, "c2b5080177348abbe4790c2dedd5dd6f8946262227f7d9de78cb07530c7fc03b"), looks := true }, kinds := [], alts := [], laidByText := true, laidKinds := [.data, .data, .data, .sentinel, .sentinel], laidTests := true, laidLooks := .later }
def FnExactWrdReadCardSaid : Prop := Claim7.holds Tryd.pinned (.plain (OpenSpec.ofChange fnExactWrdReadSpec)) fnExactWrdReadCard

/-- THE TIED CARD OF 'laws.FnWrdText'. -/
def fnWrdTextCard : Claim7 := { stood := { row := fnWrdTextRow, standIns := [], harness := (true, "c2b5080177348abbe4790c2dedd5dd6f8946262227f7d9de78cb07530c7fc03b"), looks := true }, kinds := [], alts := [], laidByText := true, laidKinds := [.data, .data, .data, .sentinel, .sentinel], laidTests := true, laidLooks := .later }
def FnWrdTextCardSaid : Prop := Claim7.holds Tryd.pinned (.plain (OpenSpec.ofChange fnWrdTextSpec)) fnWrdTextCard

/-- THE SECOND FORM's CARD OF 'laws.FnExactWrdText'. -/
def fnExactWrdTextUptoCard : Claim7 := { stood := { row := fnExactWrdTextUptoRow, standIns := [], harness := (true, "c2b5080177348abbe4790c2dedd5dd6f8946262227f7d9de78cb07530c7fc03b"), looks := true }, kinds := [], alts := [], laidByText := true, laidKinds := [.data, .data, .data], laidTests := true, laidLooks := .later }
def FnExactWrdTextUptoCardSaid : Prop := Claim7.holds Tryd.pinned (.plain (OpenSpec.upto fnExactWrdTextSpec)) fnExactWrdTextUptoCard

/-- THE SECOND FORM's CARD OF 'laws.FnExactWrdRead'. -/
def fnExactWrdReadUptoCard : Claim7 := { stood := { row := fnExactWrdReadUptoRow, standIns := [], harness := (true, "c2b5080177348abbe4790c2dedd5dd6f8946262227f7d9de78cb07530c7fc03b"), looks := true }, kinds := [], alts := [], laidByText := true, laidKinds := [.data, .data, .data, .sentinel, .sentinel], laidTests := true, laidLooks := .later }
def FnExactWrdReadUptoCardSaid : Prop := Claim7.holds Tryd.pinned (.plain (OpenSpec.upto fnExactWrdReadSpec)) fnExactWrdReadUptoCard

/-- THE SECOND FORM's CARD OF 'laws.FnWrdText'. -/
def fnWrdTextUptoCard : Claim7 := { stood := { row := fnWrdTextUptoRow, standIns := [], harness := (true, "c2b5080177348abbe4790c2dedd5dd6f8946262227f7d9de78cb07530c7fc03b"), looks := true }, kinds := [], alts := [], laidByText := true, laidKinds := [.data, .data, .data, .sentinel, .sentinel], laidTests := true, laidLooks := .later }
def FnWrdTextUptoCardSaid : Prop := Claim7.holds Tryd.pinned (.plain (OpenSpec.upto fnWrdTextSpec)) fnWrdTextUptoCard
end Rows
end Go.Proofs.YtldohgjembbcmaaDoor
