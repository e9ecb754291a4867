/-
  No cell of these rows narrows 'for every input' (looked for: loops, veiled, ifaces, maps, wideKeys, modest, calm, conditions, laid).
  DERIVED. THE GIVEN ROWS OF THIS SEAT. 11 by the template 'for every input the law returns true; each argument reads behind the call as it read before'; 0 by the template 'total and deterministic' (their statements: YtabbjnamlkphmaaTotals.lean).
  GIVEN WITH THE SEED: the statements are not yours to turn. If you find one false, say at which input.
  Laid BY PROGRAM, IN A SANDBOX (cutbox-rows.mjs): the forced cells as the released guide's own fill.sh prints them over the translation f28c2fa849dbfe99… (all of the seat's roots in one cut). By AI agents, Wed Nov 11 2026. No macro, syntax, notation, axiom, sorry.
-/
import Derived.Test.YtabbjnamlkphmaaChecked
import GoSem.Claim
import GoSem.ClaimJoined
import GoSem.ClaimMapViews
import Derived.JoinedTies
import Derived.KernelRfl
namespace Go.Proofs.Ytabbjnamlkphmaa
/- THE CELL 'sum', in the pinned program and in every row, IS THE sha256 OF THE DUMP (.gsa) THAT YtabbjnamlkphmaaProg.lean LOADS. Nothing in Lean hashes anything: it is a label: what it is worth is what the hold of that sum in a sandbox is worth. -/
noncomputable def Try.pinned : Pinned := { name := "ytabbjnamlkphmaa", sum := "f28c2fa849dbfe9949e875d9567c4e5ba1a5adee02988778411dff07a949e760", checked := Try.checked }
namespace Rows
def none {H : Type} : Left H := { results := [], args := [] }

/-- 'laws.FnExactWrdDo': WHATEVER THE INPUT: true; the input reads as it did. -/
def fnExactWrdDoSpec : ChangeSpec := { name := "fnExactWrdDo", fn := fun _ => fun
  | [d1, d2, d3] => { results := [.lit (.bool true)], args := [d1, d2, d3] }
  | _ => none }
def fnExactWrdDoRow : OpenClaim := { program := "ytabbjnamlkphmaa", sum := "f28c2fa849dbfe9949e875d9567c4e5ba1a5adee02988778411dff07a949e760", func := "loop.example/latimer/laws.FnExactWrdDo", spec := "fnExactWrdDo", apart := false }
def FnExactWrdDoSaid : Prop := fnExactWrdDoRow.holds Try.pinned (OpenSpec.ofChange fnExactWrdDoSpec)

/-- ITS FALSE NEIGHBOUR: 'it returns false'. Refute it at one input. -/
def fnExactWrdDoWrong : ChangeSpec := { name := "fnExactWrdDo", fn := fun _ => fun
  | [d1, d2, d3] => { results := [.lit (.bool false)], args := [d1, d2, d3] }
  | _ => none }
def FnExactWrdDoWrongFalsely : Prop := fnExactWrdDoRow.holds Try.pinned (OpenSpec.ofChange fnExactWrdDoWrong)

/-- 'laws.FnWrdWrap': WHATEVER THE INPUT: true; the input reads as it did. -/
def fnWrdWrapSpec : ChangeSpec := { name := "fnWrdWrap", fn := fun _ => fun
  | [d] => { results := [.lit (.bool true)], args := [d] }
  | _ => none }
def fnWrdWrapRow : OpenClaim := { program := "ytabbjnamlkphmaa", sum := "f28c2fa849dbfe9949e875d9567c4e5ba1a5adee02988778411dff07a949e760", func := "loop.example/latimer/laws.FnWrdWrap", spec := "fnWrdWrap", apart := false }
def FnWrdWrapSaid : Prop := fnWrdWrapRow.holds Try.pinned (OpenSpec.ofChange fnWrdWrapSpec)

/-- ITS FALSE NEIGHBOUR: 'it returns false'. Refute it at one input. -/
def fnWrdWrapWrong : ChangeSpec := { name := "fnWrdWrap", fn := fun _ => fun
  | [d] => { results := [.lit (.bool false)], args := [d] }
  | _ => none }
def FnWrdWrapWrongFalsely : Prop := fnWrdWrapRow.holds Try.pinned (OpenSpec.ofChange fnWrdWrapWrong)

/-- 'laws.FnWrdRel': WHATEVER THE INPUT: true; the input reads as it did. -/
def fnWrdRelSpec : ChangeSpec := { name := "fnWrdRel", fn := fun _ => fun
  | [d] => { results := [.lit (.bool true)], args := [d] }
  | _ => none }
def fnWrdRelRow : OpenClaim := { program := "ytabbjnamlkphmaa", sum := "f28c2fa849dbfe9949e875d9567c4e5ba1a5adee02988778411dff07a949e760", func := "loop.example/latimer/laws.FnWrdRel", spec := "fnWrdRel", apart := false }
def FnWrdRelSaid : Prop := fnWrdRelRow.holds Try.pinned (OpenSpec.ofChange fnWrdRelSpec)

/-- ITS FALSE NEIGHBOUR: 'it returns false'. Refute it at one input. -/
def fnWrdRelWrong : ChangeSpec := { name := "fnWrdRel", fn := fun _ => fun
  | [d] => { results := [.lit (.bool false)], args := [d] }
  | _ => none }
def FnWrdRelWrongFalsely : Prop := fnWrdRelRow.holds Try.pinned (OpenSpec.ofChange fnWrdRelWrong)

/-- 'laws.FnWrdBits': WHATEVER THE INPUT: true; the input reads as it did. -/
def fnWrdBitsSpec : ChangeSpec := { name := "fnWrdBits", fn := fun _ => fun
  | [d] => { results := [.lit (.bool true)], args := [d] }
  | _ => none }
def fnWrdBitsRow : OpenClaim := { program := "ytabbjnamlkphmaa", sum := "f28c2fa849dbfe9949e875d9567c4e5ba1a5adee02988778411dff07a949e760", func := "loop.example/latimer/laws.FnWrdBits", spec := "fnWrdBits", apart := false }
def FnWrdBitsSaid : Prop := fnWrdBitsRow.holds Try.pinned (OpenSpec.ofChange fnWrdBitsSpec)

/-- ITS FALSE NEIGHBOUR: 'it returns false'. Refute it at one input. -/
def fnWrdBitsWrong : ChangeSpec := { name := "fnWrdBits", fn := fun _ => fun
  | [d] => { results := [.lit (.bool false)], args := [d] }
  | _ => none }
def FnWrdBitsWrongFalsely : Prop := fnWrdBitsRow.holds Try.pinned (OpenSpec.ofChange fnWrdBitsWrong)

/-- 'laws.FnWrdDo': WHATEVER THE INPUT: true; the input reads as it did. -/
def fnWrdDoSpec : ChangeSpec := { name := "fnWrdDo", fn := fun _ => fun
  | [d1, d2] => { results := [.lit (.bool true)], args := [d1, d2] }
  | _ => none }
def fnWrdDoRow : OpenClaim := { program := "ytabbjnamlkphmaa", sum := "f28c2fa849dbfe9949e875d9567c4e5ba1a5adee02988778411dff07a949e760", func := "loop.example/latimer/laws.FnWrdDo", spec := "fnWrdDo", apart := false }
def FnWrdDoSaid : Prop := fnWrdDoRow.holds Try.pinned (OpenSpec.ofChange fnWrdDoSpec)

/-- ITS FALSE NEIGHBOUR: 'it returns false'. Refute it at one input. -/
def fnWrdDoWrong : ChangeSpec := { name := "fnWrdDo", fn := fun _ => fun
  | [d1, d2] => { results := [.lit (.bool false)], args := [d1, d2] }
  | _ => none }
def FnWrdDoWrongFalsely : Prop := fnWrdDoRow.holds Try.pinned (OpenSpec.ofChange fnWrdDoWrong)

/-- 'laws.FnMchNew': WHATEVER THE INPUT: true; the input reads as it did. -/
def fnMchNewSpec : ChangeSpec := { name := "fnMchNew", fn := fun _ => fun
  | [d] => { results := [.lit (.bool true)], args := [d] }
  | _ => none }
def fnMchNewRow : OpenClaim := { program := "ytabbjnamlkphmaa", sum := "f28c2fa849dbfe9949e875d9567c4e5ba1a5adee02988778411dff07a949e760", func := "loop.example/latimer/laws.FnMchNew", spec := "fnMchNew", apart := false }
def FnMchNewSaid : Prop := fnMchNewRow.holds Try.pinned (OpenSpec.ofChange fnMchNewSpec)

/-- ITS FALSE NEIGHBOUR: 'it returns false'. Refute it at one input. -/
def fnMchNewWrong : ChangeSpec := { name := "fnMchNew", fn := fun _ => fun
  | [d] => { results := [.lit (.bool false)], args := [d] }
  | _ => none }
def FnMchNewWrongFalsely : Prop := fnMchNewRow.holds Try.pinned (OpenSpec.ofChange fnMchNewWrong)

/-- 'laws.FnExactIrEvents': WHATEVER THE INPUT: true; the input reads as it did. -/
def fnExactIrEventsSpec : ChangeSpec := { name := "fnExactIrEvents", fn := fun _ => fun
  | [d] => { results := [.lit (.bool true)], args := [d] }
  | _ => none }
def fnExactIrEventsRow : OpenClaim := { program := "ytabbjnamlkphmaa", sum := "f28c2fa849dbfe9949e875d9567c4e5ba1a5adee02988778411dff07a949e760", func := "loop.example/latimer/laws.FnExactIrEvents", spec := "fnExactIrEvents", apart := false }
def FnExactIrEventsSaid : Prop := fnExactIrEventsRow.holds Try.pinned (OpenSpec.ofChange fnExactIrEventsSpec)

/-- ITS FALSE NEIGHBOUR: 'it returns false'. Refute it at one input. -/
def fnExactIrEventsWrong : ChangeSpec := { name := "fnExactIrEvents", fn := fun _ => fun
  | [d] => { results := [.lit (.bool false)], args := [d] }
  | _ => none }
def FnExactIrEventsWrongFalsely : Prop := fnExactIrEventsRow.holds Try.pinned (OpenSpec.ofChange fnExactIrEventsWrong)

/-- 'laws.FnExactIrSame': WHATEVER THE INPUT: true; the input reads as it did. -/
def fnExactIrSameSpec : ChangeSpec := { name := "fnExactIrSame", fn := fun _ => fun
  | [d1, d2] => { results := [.lit (.bool true)], args := [d1, d2] }
  | _ => none }
def fnExactIrSameRow : OpenClaim := { program := "ytabbjnamlkphmaa", sum := "f28c2fa849dbfe9949e875d9567c4e5ba1a5adee02988778411dff07a949e760", func := "loop.example/latimer/laws.FnExactIrSame", spec := "fnExactIrSame", apart := false }
def FnExactIrSameSaid : Prop := fnExactIrSameRow.holds Try.pinned (OpenSpec.ofChange fnExactIrSameSpec)

/-- ITS FALSE NEIGHBOUR: 'it returns false'. Refute it at one input. -/
def fnExactIrSameWrong : ChangeSpec := { name := "fnExactIrSame", fn := fun _ => fun
  | [d1, d2] => { results := [.lit (.bool false)], args := [d1, d2] }
  | _ => none }
def FnExactIrSameWrongFalsely : Prop := fnExactIrSameRow.holds Try.pinned (OpenSpec.ofChange fnExactIrSameWrong)

/-- 'laws.FnExactMchOk': WHATEVER THE INPUT: true; the input reads as it did. -/
def fnExactMchOkSpec : ChangeSpec := { name := "fnExactMchOk", fn := fun _ => fun
  | [d] => { results := [.lit (.bool true)], args := [d] }
  | _ => none }
def fnExactMchOkRow : OpenClaim := { program := "ytabbjnamlkphmaa", sum := "f28c2fa849dbfe9949e875d9567c4e5ba1a5adee02988778411dff07a949e760", func := "loop.example/latimer/laws.FnExactMchOk", spec := "fnExactMchOk", apart := false }
def FnExactMchOkSaid : Prop := fnExactMchOkRow.holds Try.pinned (OpenSpec.ofChange fnExactMchOkSpec)

/-- ITS FALSE NEIGHBOUR: 'it returns false'. Refute it at one input. -/
def fnExactMchOkWrong : ChangeSpec := { name := "fnExactMchOk", fn := fun _ => fun
  | [d] => { results := [.lit (.bool false)], args := [d] }
  | _ => none }
def FnExactMchOkWrongFalsely : Prop := fnExactMchOkRow.holds Try.pinned (OpenSpec.ofChange fnExactMchOkWrong)

/-- 'laws.FnExactMchNew': WHATEVER THE INPUT: true; the input reads as it did. -/
def fnExactMchNewSpec : ChangeSpec := { name := "fnExactMchNew", fn := fun _ => fun
  | [d1, d2] => { results := [.lit (.bool true)], args := [d1, d2] }
  | _ => none }
def fnExactMchNewRow : OpenClaim := { program := "ytabbjnamlkphmaa", sum := "f28c2fa849dbfe9949e875d9567c4e5ba1a5adee02988778411dff07a949e760", func := "loop.example/latimer/laws.FnExactMchNew", spec := "fnExactMchNew", apart := false }
def FnExactMchNewSaid : Prop := fnExactMchNewRow.holds Try.pinned (OpenSpec.ofChange fnExactMchNewSpec)

/-- ITS FALSE NEIGHBOUR: 'it returns false'. Refute it at one input. -/
def fnExactMchNewWrong : ChangeSpec := { name := "fnExactMchNew", fn := fun _ => fun
  | [d1, d2] => { results := [.lit (.bool false)], args := [d1, d2] }
  | _ => none }
def FnExactMchNewWrongFalsely : Prop := fnExactMchNewRow.holds Try.pinned (OpenSpec.ofChange fnExactMchNewWrong)

/-- 'laws.FnExactIrOk': WHATEVER THE INPUT: true; the input reads as it did. -/
def fnExactIrOkSpec : ChangeSpec := { name := "fnExactIrOk", fn := fun _ => fun
  | [d] => { results := [.lit (.bool true)], args := [d] }
  | _ => none }
def fnExactIrOkRow : OpenClaim := { program := "ytabbjnamlkphmaa", sum := "f28c2fa849dbfe9949e875d9567c4e5ba1a5adee02988778411dff07a949e760", func := "loop.example/latimer/laws.FnExactIrOk", spec := "fnExactIrOk", apart := false }
def FnExactIrOkSaid : Prop := fnExactIrOkRow.holds Try.pinned (OpenSpec.ofChange fnExactIrOkSpec)

/-- ITS FALSE NEIGHBOUR: 'it returns false'. Refute it at one input. -/
def fnExactIrOkWrong : ChangeSpec := { name := "fnExactIrOk", fn := fun _ => fun
  | [d] => { results := [.lit (.bool false)], args := [d] }
  | _ => none }
def FnExactIrOkWrongFalsely : Prop := fnExactIrOkRow.holds Try.pinned (OpenSpec.ofChange fnExactIrOkWrong)

/- THE SECOND FORM. 'bulk': how many values and letters a reading holds, each counted each time it is reached (what is shared counts as often as it is met; a slice's spare places count too). A statement '..UptoSaid' is the law's where the arguments, and the package variables that the reading takes, are together of bulk at most 1048576: NARROWER than '..Said'. Prove '..Said' where nothing that the law and all that it calls make is longer than what came in: it says more and counts as full. Else prove '..UptoSaid'. A law counts once. -/
mutual
def uptoBulk {H : Type} : DataW H → Nat
  | .lit (.string bytes) => bytes.length + 1
  | .lit _ => 1
  | .nil => 1
  | .ptr d => uptoBulk d + 1
  | .slice elems spare => uptoBulkAll elems + uptoBulkAll spare + 1
  | .agg parts => uptoBulkAll parts + 1
  | .iface _ d => uptoBulk d + 1
  | .map entries => uptoBulkEntries entries + 1
  | .held _ => 1
def uptoBulkAll {H : Type} : List (DataW H) → Nat
  | [] => 0
  | d :: r => uptoBulk d + uptoBulkAll r
def uptoBulkEntries {H : Type} : List (Lit × DataW H) → Nat
  | [] => 0
  | x :: r => uptoBulkEntry x + uptoBulkEntries r
def uptoBulkEntry {H : Type} : Lit × DataW H → Nat
  | (.string bytes, d) => bytes.length + uptoBulk d + 1
  | (_, d) => uptoBulk d + 1
 end
def uptoSmall : (H : Type) → List (DataW H) → Bool := fun _ ds => decide (uptoBulkAll ds ≤ 1048576)
def OpenSpec.upto (s : _root_.Go.ChangeSpec) : _root_.Go.OpenSpec := { _root_.Go.OpenSpec.ofChange s with cond := some uptoSmall }

/-- 'laws.FnExactWrdDo', WHERE WHAT IT READS IS OF BULK AT MOST 1048576: true; the input reads as it did. -/
def fnExactWrdDoUptoRow : OpenClaim := { program := "ytabbjnamlkphmaa", sum := "f28c2fa849dbfe9949e875d9567c4e5ba1a5adee02988778411dff07a949e760", func := "loop.example/latimer/laws.FnExactWrdDo", spec := "fnExactWrdDo", apart := false, narrowed := true }
def FnExactWrdDoUptoSaid : Prop := fnExactWrdDoUptoRow.holds Try.pinned (OpenSpec.upto fnExactWrdDoSpec)

/-- 'laws.FnWrdWrap', WHERE WHAT IT READS IS OF BULK AT MOST 1048576: true; the input reads as it did. -/
def fnWrdWrapUptoRow : OpenClaim := { program := "ytabbjnamlkphmaa", sum := "f28c2fa849dbfe9949e875d9567c4e5ba1a5adee02988778411dff07a949e760", func := "loop.example/latimer/laws.FnWrdWrap", spec := "fnWrdWrap", apart := false, narrowed := true }
def FnWrdWrapUptoSaid : Prop := fnWrdWrapUptoRow.holds Try.pinned (OpenSpec.upto fnWrdWrapSpec)

/-- 'laws.FnWrdRel', WHERE WHAT IT READS IS OF BULK AT MOST 1048576: true; the input reads as it did. -/
def fnWrdRelUptoRow : OpenClaim := { program := "ytabbjnamlkphmaa", sum := "f28c2fa849dbfe9949e875d9567c4e5ba1a5adee02988778411dff07a949e760", func := "loop.example/latimer/laws.FnWrdRel", spec := "fnWrdRel", apart := false, narrowed := true }
def FnWrdRelUptoSaid : Prop := fnWrdRelUptoRow.holds Try.pinned (OpenSpec.upto fnWrdRelSpec)

/-- 'laws.FnWrdBits', WHERE WHAT IT READS IS OF BULK AT MOST 1048576: true; the input reads as it did. -/
def fnWrdBitsUptoRow : OpenClaim := { program := "ytabbjnamlkphmaa", sum := "f28c2fa849dbfe9949e875d9567c4e5ba1a5adee02988778411dff07a949e760", func := "loop.example/latimer/laws.FnWrdBits", spec := "fnWrdBits", apart := false, narrowed := true }
def FnWrdBitsUptoSaid : Prop := fnWrdBitsUptoRow.holds Try.pinned (OpenSpec.upto fnWrdBitsSpec)

/-- 'laws.FnWrdDo', WHERE WHAT IT READS IS OF BULK AT MOST 1048576: true; the input reads as it did. -/
def fnWrdDoUptoRow : OpenClaim := { program := "ytabbjnamlkphmaa", sum := "f28c2fa849dbfe9949e875d9567c4e5ba1a5adee02988778411dff07a949e760", func := "loop.example/latimer/laws.FnWrdDo", spec := "fnWrdDo", apart := false, narrowed := true }
def FnWrdDoUptoSaid : Prop := fnWrdDoUptoRow.holds Try.pinned (OpenSpec.upto fnWrdDoSpec)

/-- 'laws.FnMchNew', WHERE WHAT IT READS IS OF BULK AT MOST 1048576: true; the input reads as it did. -/
def fnMchNewUptoRow : OpenClaim := { program := "ytabbjnamlkphmaa", sum := "f28c2fa849dbfe9949e875d9567c4e5ba1a5adee02988778411dff07a949e760", func := "loop.example/latimer/laws.FnMchNew", spec := "fnMchNew", apart := false, narrowed := true }
def FnMchNewUptoSaid : Prop := fnMchNewUptoRow.holds Try.pinned (OpenSpec.upto fnMchNewSpec)

/-- 'laws.FnExactIrEvents', WHERE WHAT IT READS IS OF BULK AT MOST 1048576: true; the input reads as it did. -/
def fnExactIrEventsUptoRow : OpenClaim := { program := "ytabbjnamlkphmaa", sum := "f28c2fa849dbfe9949e875d9567c4e5ba1a5adee02988778411dff07a949e760", func := "loop.example/latimer/laws.FnExactIrEvents", spec := "fnExactIrEvents", apart := false, narrowed := true }
def FnExactIrEventsUptoSaid : Prop := fnExactIrEventsUptoRow.holds Try.pinned (OpenSpec.upto fnExactIrEventsSpec)

/-- 'laws.FnExactIrSame', WHERE WHAT IT READS IS OF BULK AT MOST 1048576: true; the input reads as it did. -/
def fnExactIrSameUptoRow : OpenClaim := { program := "ytabbjnamlkphmaa", sum := "f28c2fa849dbfe9949e875d9567c4e5ba1a5adee02988778411dff07a949e760", func := "loop.example/latimer/laws.FnExactIrSame", spec := "fnExactIrSame", apart := false, narrowed := true }
def FnExactIrSameUptoSaid : Prop := fnExactIrSameUptoRow.holds Try.pinned (OpenSpec.upto fnExactIrSameSpec)

/-- 'laws.FnExactMchOk', WHERE WHAT IT READS IS OF BULK AT MOST 1048576: true; the input reads as it did. -/
def fnExactMchOkUptoRow : OpenClaim := { program := "ytabbjnamlkphmaa", sum := "f28c2fa849dbfe9949e875d9567c4e5ba1a5adee02988778411dff07a949e760", func := "loop.example/latimer/laws.FnExactMchOk", spec := "fnExactMchOk", apart := false, narrowed := true }
def FnExactMchOkUptoSaid : Prop := fnExactMchOkUptoRow.holds Try.pinned (OpenSpec.upto fnExactMchOkSpec)

/-- 'laws.FnExactMchNew', WHERE WHAT IT READS IS OF BULK AT MOST 1048576: true; the input reads as it did. -/
def fnExactMchNewUptoRow : OpenClaim := { program := "ytabbjnamlkphmaa", sum := "f28c2fa849dbfe9949e875d9567c4e5ba1a5adee02988778411dff07a949e760", func := "loop.example/latimer/laws.FnExactMchNew", spec := "fnExactMchNew", apart := false, narrowed := true }
def FnExactMchNewUptoSaid : Prop := fnExactMchNewUptoRow.holds Try.pinned (OpenSpec.upto fnExactMchNewSpec)

/-- 'laws.FnExactIrOk', WHERE WHAT IT READS IS OF BULK AT MOST 1048576: true; the input reads as it did. -/
def fnExactIrOkUptoRow : OpenClaim := { program := "ytabbjnamlkphmaa", sum := "f28c2fa849dbfe9949e875d9567c4e5ba1a5adee02988778411dff07a949e760", func := "loop.example/latimer/laws.FnExactIrOk", spec := "fnExactIrOk", apart := false, narrowed := true }
def FnExactIrOkUptoSaid : Prop := fnExactIrOkUptoRow.holds Try.pinned (OpenSpec.upto fnExactIrOkSpec)

end Rows
end Go.Proofs.Ytabbjnamlkphmaa
