/-
  No cell of these rows narrows 'for every input' (looked for: loops, veiled, ifaces, maps, wideKeys, modest, calm, conditions, laid).
  DERIVED. THE GIVEN ROWS OF THIS SEAT. 3 by the template 'for every input the law returns true; each argument reads behind the call as it read before'; 0 by the template 'total and deterministic' (their statements: YtcjeeggffeoilaaTotals.lean).
  GIVEN WITH THE SEED: the statements are not yours to turn. If you find one false, say at which input.
  Laid BY PROGRAM, IN A SANDBOX (cutbox-rows.mjs): the forced cells as the released guide's own fill.sh prints them over the translation 37b90051ccdef08b… (all of the seat's roots in one cut). By AI agents, Wed Nov 11 2026. No macro, syntax, notation, axiom, sorry.
-/
import Derived.Test.YtcjeeggffeoilaaChecked
import GoSem.Claim
import GoSem.ClaimJoined
import GoSem.ClaimMapViews
import Derived.JoinedTies
import Derived.KernelRfl
namespace Go.Proofs.Ytcjeeggffeoilaa
/- THE CELL 'sum', in the pinned program and in every row, IS THE sha256 OF THE DUMP (.gsa) THAT YtcjeeggffeoilaaProg.lean LOADS. Nothing in Lean hashes anything: it is a label: what it is worth is what the hold of that sum in a sandbox is worth. -/
noncomputable def Try.pinned : Pinned := { name := "ytcjeeggffeoilaa", sum := "37b90051ccdef08b88320ee33dfc5bfbea8d2c01900e7107693f2ab1f60ebe0e", checked := Try.checked }
namespace Rows
def none {H : Type} : Left H := { results := [], args := [] }

/-- 'laws.FnMchNew': WHATEVER THE INPUT: true; the input reads as it did. -/
def fnMchNewSpec : ChangeSpec := { name := "fnMchNew", fn := fun _ => fun
  | [d] => { results := [.lit (.bool true)], args := [d] }
  | _ => none }
def fnMchNewRow : OpenClaim := { program := "ytcjeeggffeoilaa", sum := "37b90051ccdef08b88320ee33dfc5bfbea8d2c01900e7107693f2ab1f60ebe0e", func := "loop.example/latimer/laws.FnMchNew", spec := "fnMchNew", apart := false }
def FnMchNewSaid : Prop := fnMchNewRow.holds Try.pinned (OpenSpec.ofChange fnMchNewSpec)

/-- ITS FALSE NEIGHBOUR: 'it returns false'. Refute it at one input. -/
def fnMchNewWrong : ChangeSpec := { name := "fnMchNew", fn := fun _ => fun
  | [d] => { results := [.lit (.bool false)], args := [d] }
  | _ => none }
def FnMchNewWrongFalsely : Prop := fnMchNewRow.holds Try.pinned (OpenSpec.ofChange fnMchNewWrong)

/-- 'laws.FnExactMchNew': WHATEVER THE INPUT: true; the input reads as it did. -/
def fnExactMchNewSpec : ChangeSpec := { name := "fnExactMchNew", fn := fun _ => fun
  | [d1, d2] => { results := [.lit (.bool true)], args := [d1, d2] }
  | _ => none }
def fnExactMchNewRow : OpenClaim := { program := "ytcjeeggffeoilaa", sum := "37b90051ccdef08b88320ee33dfc5bfbea8d2c01900e7107693f2ab1f60ebe0e", func := "loop.example/latimer/laws.FnExactMchNew", spec := "fnExactMchNew", apart := false }
def FnExactMchNewSaid : Prop := fnExactMchNewRow.holds Try.pinned (OpenSpec.ofChange fnExactMchNewSpec)

/-- ITS FALSE NEIGHBOUR: 'it returns false'. Refute it at one input. -/
def fnExactMchNewWrong : ChangeSpec := { name := "fnExactMchNew", fn := fun _ => fun
  | [d1, d2] => { results := [.lit (.bool false)], args := [d1, d2] }
  | _ => none }
def FnExactMchNewWrongFalsely : Prop := fnExactMchNewRow.holds Try.pinned (OpenSpec.ofChange fnExactMchNewWrong)

/-- 'laws.FnExactIrOk': WHATEVER THE INPUT: true; the input reads as it did. -/
def fnExactIrOkSpec : ChangeSpec := { name := "fnExactIrOk", fn := fun _ => fun
  | [d] => { results := [.lit (.bool true)], args := [d] }
  | _ => none }
def fnExactIrOkRow : OpenClaim := { program := "ytcjeeggffeoilaa", sum := "37b90051ccdef08b88320ee33dfc5bfbea8d2c01900e7107693f2ab1f60ebe0e", func := "loop.example/latimer/laws.FnExactIrOk", spec := "fnExactIrOk", apart := false }
def FnExactIrOkSaid : Prop := fnExactIrOkRow.holds Try.pinned (OpenSpec.ofChange fnExactIrOkSpec)

/-- ITS FALSE NEIGHBOUR: 'it returns false'. Refute it at one input. -/
def fnExactIrOkWrong : ChangeSpec := { name := "fnExactIrOk", fn := fun _ => fun
  | [d] => { results := [.lit (.bool false)], args := [d] }
  | _ => none }
def FnExactIrOkWrongFalsely : Prop := fnExactIrOkRow.holds Try.pinned (OpenSpec.ofChange fnExactIrOkWrong)

/- THE SECOND FORM. 'bulk': how many values and letters a reading holds, each counted each time it is reached (what is shared counts as often as it is met; a slice's spare places count too). A statement '..UptoSaid' is the law's where the arguments, and the package variables that the reading takes, are together of bulk at most 1048576: NARROWER than '..Said'. Prove '..Said' where nothing that the law and all that it calls make is longer than what came in: it says more and counts as full. Else prove '..UptoSaid'. A law counts once. -/
mutual
def uptoBulk {H : Type} : DataW H → Nat
  | .lit (.string bytes) => bytes.length + 1
  | .lit _ => 1
  | .nil => 1
  | .ptr d => uptoBulk d + 1
  | .slice elems spare => uptoBulkAll elems + uptoBulkAll spare + 1
  | .agg parts => uptoBulkAll parts + 1
  | .iface _ d => uptoBulk d + 1
  | .map entries => uptoBulkEntries entries + 1
  | .held _ => 1
def uptoBulkAll {H : Type} : List (DataW H) → Nat
  | [] => 0
  | d :: r => uptoBulk d + uptoBulkAll r
def uptoBulkEntries {H : Type} : List (Lit × DataW H) → Nat
  | [] => 0
  | x :: r => uptoBulkEntry x + uptoBulkEntries r
def uptoBulkEntry {H : Type} : Lit × DataW H → Nat
  | (.string bytes, d) => bytes.length + uptoBulk d + 1
  | (_, d) => uptoBulk d + 1
 end
def uptoSmall : (H : Type) → List (DataW H) → Bool := fun _ ds => decide (uptoBulkAll ds ≤ 1048576)
def OpenSpec.upto (s : _root_.Go.ChangeSpec) : _root_.Go.OpenSpec := { _root_.Go.OpenSpec.ofChange s with cond := some uptoSmall }

/-- 'laws.FnMchNew', WHERE WHAT IT READS IS OF BULK AT MOST 1048576: true; the input reads as it did. -/
def fnMchNewUptoRow : OpenClaim := { program := "ytcjeeggffeoilaa", sum := "37b90051ccdef08b88320ee33dfc5bfbea8d2c01900e7107693f2ab1f60ebe0e", func := "loop.example/latimer/laws.FnMchNew", spec := "fnMchNew", apart := false, narrowed := true }
def FnMchNewUptoSaid : Prop := fnMchNewUptoRow.holds Try.pinned (OpenSpec.upto fnMchNewSpec)

/-- 'laws.FnExactMchNew', WHERE WHAT IT READS IS OF BULK AT MOST 1048576: true; the input reads as it did. -/
def fnExactMchNewUptoRow : OpenClaim := { program := "ytcjeeggffeoilaa", sum := "37b90051ccdef08b88320ee33dfc5bfbea8d2c01900e7107693f2ab1f60ebe0e", func := "loop.example/latimer/laws.FnExactMchNew", spec := "fnExactMchNew", apart := false, narrowed := true }
def FnExactMchNewUptoSaid : Prop := fnExactMchNewUptoRow.holds Try.pinned (OpenSpec.upto fnExactMchNewSpec)

/-- 'laws.FnExactIrOk', WHERE WHAT IT READS IS OF BULK AT MOST 1048576: true; the input reads as it did. -/
def fnExactIrOkUptoRow : OpenClaim := { program := "ytcjeeggffeoilaa", sum := "37b90051ccdef08b88320ee33dfc5bfbea8d2c01900e7107693f2ab1f60ebe0e", func := "loop.example/latimer/laws.FnExactIrOk", spec := "fnExactIrOk", apart := false, narrowed := true }
def FnExactIrOkUptoSaid : Prop := fnExactIrOkUptoRow.holds Try.pinned (OpenSpec.upto fnExactIrOkSpec)

end Rows
end Go.Proofs.Ytcjeeggffeoilaa
