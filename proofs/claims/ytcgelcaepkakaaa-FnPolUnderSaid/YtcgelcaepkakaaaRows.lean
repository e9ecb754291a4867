/-
  No cell of these rows narrows 'for every input' (looked for: loops, veiled, ifaces, maps, wideKeys, modest, calm, conditions, laid).
  DERIVED. THE GIVEN ROWS OF THIS SEAT. 8 by the template 'for every input the law returns true; each argument reads behind the call as it read before'; 0 by the template 'total and deterministic' (their statements: YtcgelcaepkakaaaTotals.lean).
  GIVEN WITH THE SEED: the statements are not yours to turn. If you find one false, say at which input.
  Laid BY PROGRAM, IN A SANDBOX (cutbox-rows.mjs): the forced cells as the released guide's own fill.sh prints them over the translation 3e2e911c269aaf08… (all of the seat's roots in one cut). By AI agents, Wed Nov 11 2026. No macro, syntax, notation, axiom, sorry.
-/
import Derived.Test.YtcgelcaepkakaaaChecked
import GoSem.Claim
import GoSem.ClaimJoined
import GoSem.ClaimMapViews
import Derived.JoinedTies
import Derived.KernelRfl
namespace Go.Proofs.Ytcgelcaepkakaaa
/- THE CELL 'sum', in the pinned program and in every row, IS THE sha256 OF THE DUMP (.gsa) THAT YtcgelcaepkakaaaProg.lean LOADS. Nothing in Lean hashes anything: it is a label: what it is worth is what the hold of that sum in a sandbox is worth. -/
noncomputable def Try.pinned : Pinned := { name := "ytcgelcaepkakaaa", sum := "3e2e911c269aaf08f9444c50abf09fc253fec1d26c2bee92dbb16cb30749dd3a", checked := Try.checked }
namespace Rows
def none {H : Type} : Left H := { results := [], args := [] }

/-- 'laws.FnPolMul': WHATEVER THE INPUT: true; the input reads as it did. -/
def fnPolMulSpec : ChangeSpec := { name := "fnPolMul", fn := fun _ => fun
  | [d1, d2] => { results := [.lit (.bool true)], args := [d1, d2] }
  | _ => none }
def fnPolMulRow : OpenClaim := { program := "ytcgelcaepkakaaa", sum := "3e2e911c269aaf08f9444c50abf09fc253fec1d26c2bee92dbb16cb30749dd3a", func := "loop.example/latimer/laws.FnPolMul", spec := "fnPolMul", unfollowed := true, recurses := true, apart := false }
def FnPolMulSaid : Prop := fnPolMulRow.holds Try.pinned (OpenSpec.ofChange fnPolMulSpec)

/-- ITS FALSE NEIGHBOUR: 'it returns false'. Refute it at one input. -/
def fnPolMulWrong : ChangeSpec := { name := "fnPolMul", fn := fun _ => fun
  | [d1, d2] => { results := [.lit (.bool false)], args := [d1, d2] }
  | _ => none }
def FnPolMulWrongFalsely : Prop := fnPolMulRow.holds Try.pinned (OpenSpec.ofChange fnPolMulWrong)

/-- 'laws.FnPolScale': WHATEVER THE INPUT: true; the input reads as it did. -/
def fnPolScaleSpec : ChangeSpec := { name := "fnPolScale", fn := fun _ => fun
  | [d1, d2] => { results := [.lit (.bool true)], args := [d1, d2] }
  | _ => none }
def fnPolScaleRow : OpenClaim := { program := "ytcgelcaepkakaaa", sum := "3e2e911c269aaf08f9444c50abf09fc253fec1d26c2bee92dbb16cb30749dd3a", func := "loop.example/latimer/laws.FnPolScale", spec := "fnPolScale", unfollowed := true, recurses := true, apart := false }
def FnPolScaleSaid : Prop := fnPolScaleRow.holds Try.pinned (OpenSpec.ofChange fnPolScaleSpec)

/-- ITS FALSE NEIGHBOUR: 'it returns false'. Refute it at one input. -/
def fnPolScaleWrong : ChangeSpec := { name := "fnPolScale", fn := fun _ => fun
  | [d1, d2] => { results := [.lit (.bool false)], args := [d1, d2] }
  | _ => none }
def FnPolScaleWrongFalsely : Prop := fnPolScaleRow.holds Try.pinned (OpenSpec.ofChange fnPolScaleWrong)

/-- 'laws.FnPolAdd': WHATEVER THE INPUT: true; the input reads as it did. -/
def fnPolAddSpec : ChangeSpec := { name := "fnPolAdd", fn := fun _ => fun
  | [d1, d2] => { results := [.lit (.bool true)], args := [d1, d2] }
  | _ => none }
def fnPolAddRow : OpenClaim := { program := "ytcgelcaepkakaaa", sum := "3e2e911c269aaf08f9444c50abf09fc253fec1d26c2bee92dbb16cb30749dd3a", func := "loop.example/latimer/laws.FnPolAdd", spec := "fnPolAdd", unfollowed := true, recurses := true, apart := false }
def FnPolAddSaid : Prop := fnPolAddRow.holds Try.pinned (OpenSpec.ofChange fnPolAddSpec)

/-- ITS FALSE NEIGHBOUR: 'it returns false'. Refute it at one input. -/
def fnPolAddWrong : ChangeSpec := { name := "fnPolAdd", fn := fun _ => fun
  | [d1, d2] => { results := [.lit (.bool false)], args := [d1, d2] }
  | _ => none }
def FnPolAddWrongFalsely : Prop := fnPolAddRow.holds Try.pinned (OpenSpec.ofChange fnPolAddWrong)

/-- 'laws.FnPolUnder': WHATEVER THE INPUT: true; the input reads as it did. -/
def fnPolUnderSpec : ChangeSpec := { name := "fnPolUnder", fn := fun _ => fun
  | [d1, d2] => { results := [.lit (.bool true)], args := [d1, d2] }
  | _ => none }
def fnPolUnderRow : OpenClaim := { program := "ytcgelcaepkakaaa", sum := "3e2e911c269aaf08f9444c50abf09fc253fec1d26c2bee92dbb16cb30749dd3a", func := "loop.example/latimer/laws.FnPolUnder", spec := "fnPolUnder", unfollowed := true, recurses := true, apart := false }
def FnPolUnderSaid : Prop := fnPolUnderRow.holds Try.pinned (OpenSpec.ofChange fnPolUnderSpec)

/-- ITS FALSE NEIGHBOUR: 'it returns false'. Refute it at one input. -/
def fnPolUnderWrong : ChangeSpec := { name := "fnPolUnder", fn := fun _ => fun
  | [d1, d2] => { results := [.lit (.bool false)], args := [d1, d2] }
  | _ => none }
def FnPolUnderWrongFalsely : Prop := fnPolUnderRow.holds Try.pinned (OpenSpec.ofChange fnPolUnderWrong)

/-- 'laws.FnPolNum': WHATEVER THE INPUT: true; the input reads as it did. -/
def fnPolNumSpec : ChangeSpec := { name := "fnPolNum", fn := fun _ => fun
  | [d1, d2] => { results := [.lit (.bool true)], args := [d1, d2] }
  | _ => none }
def fnPolNumRow : OpenClaim := { program := "ytcgelcaepkakaaa", sum := "3e2e911c269aaf08f9444c50abf09fc253fec1d26c2bee92dbb16cb30749dd3a", func := "loop.example/latimer/laws.FnPolNum", spec := "fnPolNum", unfollowed := true, recurses := true, apart := false }
def FnPolNumSaid : Prop := fnPolNumRow.holds Try.pinned (OpenSpec.ofChange fnPolNumSpec)

/-- ITS FALSE NEIGHBOUR: 'it returns false'. Refute it at one input. -/
def fnPolNumWrong : ChangeSpec := { name := "fnPolNum", fn := fun _ => fun
  | [d1, d2] => { results := [.lit (.bool false)], args := [d1, d2] }
  | _ => none }
def FnPolNumWrongFalsely : Prop := fnPolNumRow.holds Try.pinned (OpenSpec.ofChange fnPolNumWrong)

/-- 'laws.FnExactTabOk': WHATEVER THE INPUT: true; the input reads as it did. -/
def fnExactTabOkSpec : ChangeSpec := { name := "fnExactTabOk", fn := fun _ => fun
  | [d] => { results := [.lit (.bool true)], args := [d] }
  | _ => none }
def fnExactTabOkRow : OpenClaim := { program := "ytcgelcaepkakaaa", sum := "3e2e911c269aaf08f9444c50abf09fc253fec1d26c2bee92dbb16cb30749dd3a", func := "loop.example/latimer/laws.FnExactTabOk", spec := "fnExactTabOk", unfollowed := true, recurses := true, apart := false }
def FnExactTabOkSaid : Prop := fnExactTabOkRow.holds Try.pinned (OpenSpec.ofChange fnExactTabOkSpec)

/-- ITS FALSE NEIGHBOUR: 'it returns false'. Refute it at one input. -/
def fnExactTabOkWrong : ChangeSpec := { name := "fnExactTabOk", fn := fun _ => fun
  | [d] => { results := [.lit (.bool false)], args := [d] }
  | _ => none }
def FnExactTabOkWrongFalsely : Prop := fnExactTabOkRow.holds Try.pinned (OpenSpec.ofChange fnExactTabOkWrong)

/-- 'laws.FnExactTabVals': WHATEVER THE INPUT: true; the input reads as it did. -/
def fnExactTabValsSpec : ChangeSpec := { name := "fnExactTabVals", fn := fun _ => fun
  | [d1, d2, d3, d4] => { results := [.lit (.bool true)], args := [d1, d2, d3, d4] }
  | _ => none }
def fnExactTabValsRow : OpenClaim := { program := "ytcgelcaepkakaaa", sum := "3e2e911c269aaf08f9444c50abf09fc253fec1d26c2bee92dbb16cb30749dd3a", func := "loop.example/latimer/laws.FnExactTabVals", spec := "fnExactTabVals", unfollowed := true, recurses := true, apart := false }
def FnExactTabValsSaid : Prop := fnExactTabValsRow.holds Try.pinned (OpenSpec.ofChange fnExactTabValsSpec)

/-- ITS FALSE NEIGHBOUR: 'it returns false'. Refute it at one input. -/
def fnExactTabValsWrong : ChangeSpec := { name := "fnExactTabVals", fn := fun _ => fun
  | [d1, d2, d3, d4] => { results := [.lit (.bool false)], args := [d1, d2, d3, d4] }
  | _ => none }
def FnExactTabValsWrongFalsely : Prop := fnExactTabValsRow.holds Try.pinned (OpenSpec.ofChange fnExactTabValsWrong)

/-- 'laws.FnPolRing': WHATEVER THE INPUT: true; the input reads as it did. -/
def fnPolRingSpec : ChangeSpec := { name := "fnPolRing", fn := fun _ => fun
  | [d1, d2] => { results := [.lit (.bool true)], args := [d1, d2] }
  | _ => none }
def fnPolRingRow : OpenClaim := { program := "ytcgelcaepkakaaa", sum := "3e2e911c269aaf08f9444c50abf09fc253fec1d26c2bee92dbb16cb30749dd3a", func := "loop.example/latimer/laws.FnPolRing", spec := "fnPolRing", unfollowed := true, recurses := true, apart := false }
def FnPolRingSaid : Prop := fnPolRingRow.holds Try.pinned (OpenSpec.ofChange fnPolRingSpec)

/-- ITS FALSE NEIGHBOUR: 'it returns false'. Refute it at one input. -/
def fnPolRingWrong : ChangeSpec := { name := "fnPolRing", fn := fun _ => fun
  | [d1, d2] => { results := [.lit (.bool false)], args := [d1, d2] }
  | _ => none }
def FnPolRingWrongFalsely : Prop := fnPolRingRow.holds Try.pinned (OpenSpec.ofChange fnPolRingWrong)

/- THE SECOND FORM. 'bulk': how many values and letters a reading holds, each counted each time it is reached (what is shared counts as often as it is met; a slice's spare places count too). A statement '..UptoSaid' is the law's where the arguments, and the package variables that the reading takes, are together of bulk at most 1048576: NARROWER than '..Said'. Prove '..Said' where nothing that the law and all that it calls make is longer than what came in: it says more and counts as full. Else prove '..UptoSaid'. A law counts once. -/
mutual
def uptoBulk {H : Type} : DataW H → Nat
  | .lit (.string bytes) => bytes.length + 1
  | .lit _ => 1
  | .nil => 1
  | .ptr d => uptoBulk d + 1
  | .slice elems spare => uptoBulkAll elems + uptoBulkAll spare + 1
  | .agg parts => uptoBulkAll parts + 1
  | .iface _ d => uptoBulk d + 1
  | .map entries => uptoBulkEntries entries + 1
  | .held _ => 1
def uptoBulkAll {H : Type} : List (DataW H) → Nat
  | [] => 0
  | d :: r => uptoBulk d + uptoBulkAll r
def uptoBulkEntries {H : Type} : List (Lit × DataW H) → Nat
  | [] => 0
  | x :: r => uptoBulkEntry x + uptoBulkEntries r
def uptoBulkEntry {H : Type} : Lit × DataW H → Nat
  | (.string bytes, d) => bytes.length + uptoBulk d + 1
  | (_, d) => uptoBulk d + 1
 end
def uptoSmall : (H : Type) → List (DataW H) → Bool := fun _ ds => decide (uptoBulkAll ds ≤ 1048576)
def OpenSpec.upto (s : _root_.Go.ChangeSpec) : _root_.Go.OpenSpec := { _root_.Go.OpenSpec.ofChange s with cond := some uptoSmall }

/-- 'laws.FnPolMul', WHERE WHAT IT READS IS OF BULK AT MOST 1048576: true; the input reads as it did. -/
def fnPolMulUptoRow : OpenClaim := { program := "ytcgelcaepkakaaa", sum := "3e2e911c269aaf08f9444c50abf09fc253fec1d26c2bee92dbb16cb30749dd3a", func := "loop.example/latimer/laws.FnPolMul", spec := "fnPolMul", unfollowed := true, recurses := true, apart := false, narrowed := true }
def FnPolMulUptoSaid : Prop := fnPolMulUptoRow.holds Try.pinned (OpenSpec.upto fnPolMulSpec)

/-- 'laws.FnPolScale', WHERE WHAT IT READS IS OF BULK AT MOST 1048576: true; the input reads as it did. -/
def fnPolScaleUptoRow : OpenClaim := { program := "ytcgelcaepkakaaa", sum := "3e2e911c269aaf08f9444c50abf09fc253fec1d26c2bee92dbb16cb30749dd3a", func := "loop.example/latimer/laws.FnPolScale", spec := "fnPolScale", unfollowed := true, recurses := true, apart := false, narrowed := true }
def FnPolScaleUptoSaid : Prop := fnPolScaleUptoRow.holds Try.pinned (OpenSpec.upto fnPolScaleSpec)

/-- 'laws.FnPolAdd', WHERE WHAT IT READS IS OF BULK AT MOST 1048576: true; the input reads as it did. -/
def fnPolAddUptoRow : OpenClaim := { program := "ytcgelcaepkakaaa", sum := "3e2e911c269aaf08f9444c50abf09fc253fec1d26c2bee92dbb16cb30749dd3a", func := "loop.example/latimer/laws.FnPolAdd", spec := "fnPolAdd", unfollowed := true, recurses := true, apart := false, narrowed := true }
def FnPolAddUptoSaid : Prop := fnPolAddUptoRow.holds Try.pinned (OpenSpec.upto fnPolAddSpec)

/-- 'laws.FnPolUnder', WHERE WHAT IT READS IS OF BULK AT MOST 1048576: true; the input reads as it did. -/
def fnPolUnderUptoRow : OpenClaim := { program := "ytcgelcaepkakaaa", sum := "3e2e911c269aaf08f9444c50abf09fc253fec1d26c2bee92dbb16cb30749dd3a", func := "loop.example/latimer/laws.FnPolUnder", spec := "fnPolUnder", unfollowed := true, recurses := true, apart := false, narrowed := true }
def FnPolUnderUptoSaid : Prop := fnPolUnderUptoRow.holds Try.pinned (OpenSpec.upto fnPolUnderSpec)

/-- 'laws.FnPolNum', WHERE WHAT IT READS IS OF BULK AT MOST 1048576: true; the input reads as it did. -/
def fnPolNumUptoRow : OpenClaim := { program := "ytcgelcaepkakaaa", sum := "3e2e911c269aaf08f9444c50abf09fc253fec1d26c2bee92dbb16cb30749dd3a", func := "loop.example/latimer/laws.FnPolNum", spec := "fnPolNum", unfollowed := true, recurses := true, apart := false, narrowed := true }
def FnPolNumUptoSaid : Prop := fnPolNumUptoRow.holds Try.pinned (OpenSpec.upto fnPolNumSpec)

/-- 'laws.FnExactTabOk', WHERE WHAT IT READS IS OF BULK AT MOST 1048576: true; the input reads as it did. -/
def fnExactTabOkUptoRow : OpenClaim := { program := "ytcgelcaepkakaaa", sum := "3e2e911c269aaf08f9444c50abf09fc253fec1d26c2bee92dbb16cb30749dd3a", func := "loop.example/latimer/laws.FnExactTabOk", spec := "fnExactTabOk", unfollowed := true, recurses := true, apart := false, narrowed := true }
def FnExactTabOkUptoSaid : Prop := fnExactTabOkUptoRow.holds Try.pinned (OpenSpec.upto fnExactTabOkSpec)

/-- 'laws.FnExactTabVals', WHERE WHAT IT READS IS OF BULK AT MOST 1048576: true; the input reads as it did. -/
def fnExactTabValsUptoRow : OpenClaim := { program := "ytcgelcaepkakaaa", sum := "3e2e911c269aaf08f9444c50abf09fc253fec1d26c2bee92dbb16cb30749dd3a", func := "loop.example/latimer/laws.FnExactTabVals", spec := "fnExactTabVals", unfollowed := true, recurses := true, apart := false, narrowed := true }
def FnExactTabValsUptoSaid : Prop := fnExactTabValsUptoRow.holds Try.pinned (OpenSpec.upto fnExactTabValsSpec)

/-- 'laws.FnPolRing', WHERE WHAT IT READS IS OF BULK AT MOST 1048576: true; the input reads as it did. -/
def fnPolRingUptoRow : OpenClaim := { program := "ytcgelcaepkakaaa", sum := "3e2e911c269aaf08f9444c50abf09fc253fec1d26c2bee92dbb16cb30749dd3a", func := "loop.example/latimer/laws.FnPolRing", spec := "fnPolRing", unfollowed := true, recurses := true, apart := false, narrowed := true }
def FnPolRingUptoSaid : Prop := fnPolRingUptoRow.holds Try.pinned (OpenSpec.upto fnPolRingSpec)

end Rows
end Go.Proofs.Ytcgelcaepkakaaa
