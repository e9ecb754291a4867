/-
  No cell of these rows narrows 'for every input' (looked for: loops, veiled, ifaces, maps, wideKeys, modest, calm, conditions, laid).
  DERIVED. THE GIVEN ROWS OF THIS SEAT. 5 by the template 'for every input the law returns true; each argument reads behind the call as it read before'; 0 by the template 'total and deterministic' (their statements: YtemhdnmgiagonaaTotals.lean).
  GIVEN WITH THE SEED: the statements are not yours to turn. If you find one false, say at which input.
  Laid BY PROGRAM, IN A SANDBOX (cutbox-rows.mjs): the forced cells as the released guide's own fill.sh prints them over the translation 28fbc1ddbc5a6f94… (all of the seat's roots in one cut). By AI agents, Wed Nov 11 2026. No macro, syntax, notation, axiom, sorry.
-/
import Derived.Test.YtemhdnmgiagonaaChecked
import GoSem.Claim
import GoSem.ClaimJoined
import GoSem.ClaimMapViews
import Derived.JoinedTies
import Derived.KernelRfl
namespace Go.Proofs.Ytemhdnmgiagonaa
/- THE CELL 'sum', in the pinned program and in every row, IS THE sha256 OF THE DUMP (.gsa) THAT YtemhdnmgiagonaaProg.lean LOADS. Nothing in Lean hashes anything: it is a label: what it is worth is what the hold of that sum in a sandbox is worth. -/
noncomputable def Try.pinned : Pinned := { name := "ytemhdnmgiagonaa", sum := "28fbc1ddbc5a6f94b40a527b2dc9c4d4def269f182da4bb343c749a52155c3a1", checked := Try.checked }
namespace Rows
def none {H : Type} : Left H := { results := [], args := [] }

/-- 'laws.FnExactConstants': WHATEVER THE INPUT: true; the input reads as it did. -/
def fnExactConstantsSpec : ChangeSpec := { name := "fnExactConstants", fn := fun _ => fun
  | [] => { results := [.lit (.bool true)], args := [] }
  | _ => none }
def fnExactConstantsRow : OpenClaim := { program := "ytemhdnmgiagonaa", sum := "28fbc1ddbc5a6f94b40a527b2dc9c4d4def269f182da4bb343c749a52155c3a1", func := "loop.example/latimer/laws.FnExactConstants", spec := "fnExactConstants", apart := false }
def FnExactConstantsSaid : Prop := fnExactConstantsRow.holds Try.pinned (OpenSpec.ofChange fnExactConstantsSpec)

/-- ITS FALSE NEIGHBOUR: 'it returns false'. Refute it at one input. -/
def fnExactConstantsWrong : ChangeSpec := { name := "fnExactConstants", fn := fun _ => fun
  | [] => { results := [.lit (.bool false)], args := [] }
  | _ => none }
def FnExactConstantsWrongFalsely : Prop := fnExactConstantsRow.holds Try.pinned (OpenSpec.ofChange fnExactConstantsWrong)

/-- 'laws.FnExactInsEnds': WHATEVER THE INPUT: true; the input reads as it did. -/
def fnExactInsEndsSpec : ChangeSpec := { name := "fnExactInsEnds", fn := fun _ => fun
  | [d] => { results := [.lit (.bool true)], args := [d] }
  | _ => none }
def fnExactInsEndsRow : OpenClaim := { program := "ytemhdnmgiagonaa", sum := "28fbc1ddbc5a6f94b40a527b2dc9c4d4def269f182da4bb343c749a52155c3a1", func := "loop.example/latimer/laws.FnExactInsEnds", spec := "fnExactInsEnds", apart := false }
def FnExactInsEndsSaid : Prop := fnExactInsEndsRow.holds Try.pinned (OpenSpec.ofChange fnExactInsEndsSpec)

/-- ITS FALSE NEIGHBOUR: 'it returns false'. Refute it at one input. -/
def fnExactInsEndsWrong : ChangeSpec := { name := "fnExactInsEnds", fn := fun _ => fun
  | [d] => { results := [.lit (.bool false)], args := [d] }
  | _ => none }
def FnExactInsEndsWrongFalsely : Prop := fnExactInsEndsRow.holds Try.pinned (OpenSpec.ofChange fnExactInsEndsWrong)

/-- 'laws.FnExactWrdOk': WHATEVER THE INPUT: true; the input reads as it did. -/
def fnExactWrdOkSpec : ChangeSpec := { name := "fnExactWrdOk", fn := fun _ => fun
  | [d] => { results := [.lit (.bool true)], args := [d] }
  | _ => none }
def fnExactWrdOkRow : OpenClaim := { program := "ytemhdnmgiagonaa", sum := "28fbc1ddbc5a6f94b40a527b2dc9c4d4def269f182da4bb343c749a52155c3a1", func := "loop.example/latimer/laws.FnExactWrdOk", spec := "fnExactWrdOk", apart := false }
def FnExactWrdOkSaid : Prop := fnExactWrdOkRow.holds Try.pinned (OpenSpec.ofChange fnExactWrdOkSpec)

/-- ITS FALSE NEIGHBOUR: 'it returns false'. Refute it at one input. -/
def fnExactWrdOkWrong : ChangeSpec := { name := "fnExactWrdOk", fn := fun _ => fun
  | [d] => { results := [.lit (.bool false)], args := [d] }
  | _ => none }
def FnExactWrdOkWrongFalsely : Prop := fnExactWrdOkRow.holds Try.pinned (OpenSpec.ofChange fnExactWrdOkWrong)

/-- 'laws.FnExactWrdWrap': WHATEVER THE INPUT: true; the input reads as it did. -/
def fnExactWrdWrapSpec : ChangeSpec := { name := "fnExactWrdWrap", fn := fun _ => fun
  | [d] => { results := [.lit (.bool true)], args := [d] }
  | _ => none }
def fnExactWrdWrapRow : OpenClaim := { program := "ytemhdnmgiagonaa", sum := "28fbc1ddbc5a6f94b40a527b2dc9c4d4def269f182da4bb343c749a52155c3a1", func := "loop.example/latimer/laws.FnExactWrdWrap", spec := "fnExactWrdWrap", apart := false }
def FnExactWrdWrapSaid : Prop := fnExactWrdWrapRow.holds Try.pinned (OpenSpec.ofChange fnExactWrdWrapSpec)

/-- ITS FALSE NEIGHBOUR: 'it returns false'. Refute it at one input. -/
def fnExactWrdWrapWrong : ChangeSpec := { name := "fnExactWrdWrap", fn := fun _ => fun
  | [d] => { results := [.lit (.bool false)], args := [d] }
  | _ => none }
def FnExactWrdWrapWrongFalsely : Prop := fnExactWrdWrapRow.holds Try.pinned (OpenSpec.ofChange fnExactWrdWrapWrong)

/-- 'laws.FnExactWrdRel': WHATEVER THE INPUT: true; the input reads as it did. -/
def fnExactWrdRelSpec : ChangeSpec := { name := "fnExactWrdRel", fn := fun _ => fun
  | [d1, d2, d3] => { results := [.lit (.bool true)], args := [d1, d2, d3] }
  | _ => none }
def fnExactWrdRelRow : OpenClaim := { program := "ytemhdnmgiagonaa", sum := "28fbc1ddbc5a6f94b40a527b2dc9c4d4def269f182da4bb343c749a52155c3a1", func := "loop.example/latimer/laws.FnExactWrdRel", spec := "fnExactWrdRel", apart := false }
def FnExactWrdRelSaid : Prop := fnExactWrdRelRow.holds Try.pinned (OpenSpec.ofChange fnExactWrdRelSpec)

/-- ITS FALSE NEIGHBOUR: 'it returns false'. Refute it at one input. -/
def fnExactWrdRelWrong : ChangeSpec := { name := "fnExactWrdRel", fn := fun _ => fun
  | [d1, d2, d3] => { results := [.lit (.bool false)], args := [d1, d2, d3] }
  | _ => none }
def FnExactWrdRelWrongFalsely : Prop := fnExactWrdRelRow.holds Try.pinned (OpenSpec.ofChange fnExactWrdRelWrong)

/- THE SECOND FORM. 'bulk': how many values and letters a reading holds, each counted each time it is reached (what is shared counts as often as it is met; a slice's spare places count too). A statement '..UptoSaid' is the law's where the arguments, and the package variables that the reading takes, are together of bulk at most 1048576: NARROWER than '..Said'. Prove '..Said' where nothing that the law and all that it calls make is longer than what came in: it says more and counts as full. Else prove '..UptoSaid'. A law counts once. -/
mutual
def uptoBulk {H : Type} : DataW H → Nat
  | .lit (.string bytes) => bytes.length + 1
  | .lit _ => 1
  | .nil => 1
  | .ptr d => uptoBulk d + 1
  | .slice elems spare => uptoBulkAll elems + uptoBulkAll spare + 1
  | .agg parts => uptoBulkAll parts + 1
  | .iface _ d => uptoBulk d + 1
  | .map entries => uptoBulkEntries entries + 1
  | .held _ => 1
def uptoBulkAll {H : Type} : List (DataW H) → Nat
  | [] => 0
  | d :: r => uptoBulk d + uptoBulkAll r
def uptoBulkEntries {H : Type} : List (Lit × DataW H) → Nat
  | [] => 0
  | x :: r => uptoBulkEntry x + uptoBulkEntries r
def uptoBulkEntry {H : Type} : Lit × DataW H → Nat
  | (.string bytes, d) => bytes.length + uptoBulk d + 1
  | (_, d) => uptoBulk d + 1
 end
def uptoSmall : (H : Type) → List (DataW H) → Bool := fun _ ds => decide (uptoBulkAll ds ≤ 1048576)
def OpenSpec.upto (s : _root_.Go.ChangeSpec) : _root_.Go.OpenSpec := { _root_.Go.OpenSpec.ofChange s with cond := some uptoSmall }

/-- 'laws.FnExactConstants', WHERE WHAT IT READS IS OF BULK AT MOST 1048576: true; the input reads as it did. -/
def fnExactConstantsUptoRow : OpenClaim := { program := "ytemhdnmgiagonaa", sum := "28fbc1ddbc5a6f94b40a527b2dc9c4d4def269f182da4bb343c749a52155c3a1", func := "loop.example/latimer/laws.FnExactConstants", spec := "fnExactConstants", apart := false, narrowed := true }
def FnExactConstantsUptoSaid : Prop := fnExactConstantsUptoRow.holds Try.pinned (OpenSpec.upto fnExactConstantsSpec)

/-- 'laws.FnExactInsEnds', WHERE WHAT IT READS IS OF BULK AT MOST 1048576: true; the input reads as it did. -/
def fnExactInsEndsUptoRow : OpenClaim := { program := "ytemhdnmgiagonaa", sum := "28fbc1ddbc5a6f94b40a527b2dc9c4d4def269f182da4bb343c749a52155c3a1", func := "loop.example/latimer/laws.FnExactInsEnds", spec := "fnExactInsEnds", apart := false, narrowed := true }
def FnExactInsEndsUptoSaid : Prop := fnExactInsEndsUptoRow.holds Try.pinned (OpenSpec.upto fnExactInsEndsSpec)

/-- 'laws.FnExactWrdOk', WHERE WHAT IT READS IS OF BULK AT MOST 1048576: true; the input reads as it did. -/
def fnExactWrdOkUptoRow : OpenClaim := { program := "ytemhdnmgiagonaa", sum := "28fbc1ddbc5a6f94b40a527b2dc9c4d4def269f182da4bb343c749a52155c3a1", func := "loop.example/latimer/laws.FnExactWrdOk", spec := "fnExactWrdOk", apart := false, narrowed := true }
def FnExactWrdOkUptoSaid : Prop := fnExactWrdOkUptoRow.holds Try.pinned (OpenSpec.upto fnExactWrdOkSpec)

/-- 'laws.FnExactWrdWrap', WHERE WHAT IT READS IS OF BULK AT MOST 1048576: true; the input reads as it did. -/
def fnExactWrdWrapUptoRow : OpenClaim := { program := "ytemhdnmgiagonaa", sum := "28fbc1ddbc5a6f94b40a527b2dc9c4d4def269f182da4bb343c749a52155c3a1", func := "loop.example/latimer/laws.FnExactWrdWrap", spec := "fnExactWrdWrap", apart := false, narrowed := true }
def FnExactWrdWrapUptoSaid : Prop := fnExactWrdWrapUptoRow.holds Try.pinned (OpenSpec.upto fnExactWrdWrapSpec)

/-- 'laws.FnExactWrdRel', WHERE WHAT IT READS IS OF BULK AT MOST 1048576: true; the input reads as it did. -/
def fnExactWrdRelUptoRow : OpenClaim := { program := "ytemhdnmgiagonaa", sum := "28fbc1ddbc5a6f94b40a527b2dc9c4d4def269f182da4bb343c749a52155c3a1", func := "loop.example/latimer/laws.FnExactWrdRel", spec := "fnExactWrdRel", apart := false, narrowed := true }
def FnExactWrdRelUptoSaid : Prop := fnExactWrdRelUptoRow.holds Try.pinned (OpenSpec.upto fnExactWrdRelSpec)

end Rows
end Go.Proofs.Ytemhdnmgiagonaa
