/-
  No cell of these rows narrows 'for every input' (looked for: loops, veiled, ifaces, maps, wideKeys, modest, calm, conditions, laid).
  DERIVED. THE GIVEN ROWS OF THIS SEAT. 21 by the template 'for every input the law returns true; each argument reads behind the call as it read before'; 0 by the template 'total and deterministic' (their statements: YtmlegiifceangaaTotals.lean).
  GIVEN WITH THE SEED: the statements are not yours to turn. If you find one false, say at which input.
  Laid BY PROGRAM, IN A SANDBOX (cutbox-rows.mjs): the forced cells as the released guide's own fill.sh prints them over the translation c3b69d9d9a5733a7… (all of the seat's roots in one cut). By AI agents, Wed Nov 11 2026. No macro, syntax, notation, axiom, sorry.
-/
import Derived.Test.YtmlegiifceangaaChecked
import GoSem.Claim
import GoSem.ClaimJoined
import GoSem.ClaimMapViews
import Derived.JoinedTies
import Derived.KernelRfl
namespace Go.Proofs.Ytmlegiifceangaa
/- THE CELL 'sum', in the pinned program and in every row, IS THE sha256 OF THE DUMP (.gsa) THAT YtmlegiifceangaaProg.lean LOADS. Nothing in Lean hashes anything: it is a label: what it is worth is what the hold of that sum in a sandbox is worth. -/
noncomputable def Try.pinned : Pinned := { name := "ytmlegiifceangaa", sum := "c3b69d9d9a5733a7be508cad44c044df538e72f04c36275232c007d24b1de095", checked := Try.checked }
namespace Rows
def none {H : Type} : Left H := { results := [], args := [] }

/-- 'laws.FnPolMul': WHATEVER THE INPUT: true; the input reads as it did. -/
def fnPolMulSpec : ChangeSpec := { name := "fnPolMul", fn := fun _ => fun
  | [d1, d2] => { results := [.lit (.bool true)], args := [d1, d2] }
  | _ => none }
def fnPolMulRow : OpenClaim := { program := "ytmlegiifceangaa", sum := "c3b69d9d9a5733a7be508cad44c044df538e72f04c36275232c007d24b1de095", func := "loop.example/latimer/laws.FnPolMul", spec := "fnPolMul", unfollowed := true, recurses := true, apart := false }
def FnPolMulSaid : Prop := fnPolMulRow.holds Try.pinned (OpenSpec.ofChange fnPolMulSpec)

/-- ITS FALSE NEIGHBOUR: 'it returns false'. Refute it at one input. -/
def fnPolMulWrong : ChangeSpec := { name := "fnPolMul", fn := fun _ => fun
  | [d1, d2] => { results := [.lit (.bool false)], args := [d1, d2] }
  | _ => none }
def FnPolMulWrongFalsely : Prop := fnPolMulRow.holds Try.pinned (OpenSpec.ofChange fnPolMulWrong)

/-- 'laws.FnPolScale': WHATEVER THE INPUT: true; the input reads as it did. -/
def fnPolScaleSpec : ChangeSpec := { name := "fnPolScale", fn := fun _ => fun
  | [d1, d2] => { results := [.lit (.bool true)], args := [d1, d2] }
  | _ => none }
def fnPolScaleRow : OpenClaim := { program := "ytmlegiifceangaa", sum := "c3b69d9d9a5733a7be508cad44c044df538e72f04c36275232c007d24b1de095", func := "loop.example/latimer/laws.FnPolScale", spec := "fnPolScale", unfollowed := true, recurses := true, apart := false }
def FnPolScaleSaid : Prop := fnPolScaleRow.holds Try.pinned (OpenSpec.ofChange fnPolScaleSpec)

/-- ITS FALSE NEIGHBOUR: 'it returns false'. Refute it at one input. -/
def fnPolScaleWrong : ChangeSpec := { name := "fnPolScale", fn := fun _ => fun
  | [d1, d2] => { results := [.lit (.bool false)], args := [d1, d2] }
  | _ => none }
def FnPolScaleWrongFalsely : Prop := fnPolScaleRow.holds Try.pinned (OpenSpec.ofChange fnPolScaleWrong)

/-- 'laws.FnExactPolAtom': WHATEVER THE INPUT: true; the input reads as it did. -/
def fnExactPolAtomSpec : ChangeSpec := { name := "fnExactPolAtom", fn := fun _ => fun
  | [d] => { results := [.lit (.bool true)], args := [d] }
  | _ => none }
def fnExactPolAtomRow : OpenClaim := { program := "ytmlegiifceangaa", sum := "c3b69d9d9a5733a7be508cad44c044df538e72f04c36275232c007d24b1de095", func := "loop.example/latimer/laws.FnExactPolAtom", spec := "fnExactPolAtom", apart := false }
def FnExactPolAtomSaid : Prop := fnExactPolAtomRow.holds Try.pinned (OpenSpec.ofChange fnExactPolAtomSpec)

/-- ITS FALSE NEIGHBOUR: 'it returns false'. Refute it at one input. -/
def fnExactPolAtomWrong : ChangeSpec := { name := "fnExactPolAtom", fn := fun _ => fun
  | [d] => { results := [.lit (.bool false)], args := [d] }
  | _ => none }
def FnExactPolAtomWrongFalsely : Prop := fnExactPolAtomRow.holds Try.pinned (OpenSpec.ofChange fnExactPolAtomWrong)

/-- 'laws.FnExactPolConst': WHATEVER THE INPUT: true; the input reads as it did. -/
def fnExactPolConstSpec : ChangeSpec := { name := "fnExactPolConst", fn := fun _ => fun
  | [d] => { results := [.lit (.bool true)], args := [d] }
  | _ => none }
def fnExactPolConstRow : OpenClaim := { program := "ytmlegiifceangaa", sum := "c3b69d9d9a5733a7be508cad44c044df538e72f04c36275232c007d24b1de095", func := "loop.example/latimer/laws.FnExactPolConst", spec := "fnExactPolConst", apart := false }
def FnExactPolConstSaid : Prop := fnExactPolConstRow.holds Try.pinned (OpenSpec.ofChange fnExactPolConstSpec)

/-- ITS FALSE NEIGHBOUR: 'it returns false'. Refute it at one input. -/
def fnExactPolConstWrong : ChangeSpec := { name := "fnExactPolConst", fn := fun _ => fun
  | [d] => { results := [.lit (.bool false)], args := [d] }
  | _ => none }
def FnExactPolConstWrongFalsely : Prop := fnExactPolConstRow.holds Try.pinned (OpenSpec.ofChange fnExactPolConstWrong)

/-- 'laws.FnPolAdd': WHATEVER THE INPUT: true; the input reads as it did. -/
def fnPolAddSpec : ChangeSpec := { name := "fnPolAdd", fn := fun _ => fun
  | [d1, d2] => { results := [.lit (.bool true)], args := [d1, d2] }
  | _ => none }
def fnPolAddRow : OpenClaim := { program := "ytmlegiifceangaa", sum := "c3b69d9d9a5733a7be508cad44c044df538e72f04c36275232c007d24b1de095", func := "loop.example/latimer/laws.FnPolAdd", spec := "fnPolAdd", unfollowed := true, recurses := true, apart := false }
def FnPolAddSaid : Prop := fnPolAddRow.holds Try.pinned (OpenSpec.ofChange fnPolAddSpec)

/-- ITS FALSE NEIGHBOUR: 'it returns false'. Refute it at one input. -/
def fnPolAddWrong : ChangeSpec := { name := "fnPolAdd", fn := fun _ => fun
  | [d1, d2] => { results := [.lit (.bool false)], args := [d1, d2] }
  | _ => none }
def FnPolAddWrongFalsely : Prop := fnPolAddRow.holds Try.pinned (OpenSpec.ofChange fnPolAddWrong)

/-- 'laws.FnExactPolUnder': WHATEVER THE INPUT: true; the input reads as it did. -/
def fnExactPolUnderSpec : ChangeSpec := { name := "fnExactPolUnder", fn := fun _ => fun
  | [d1, d2] => { results := [.lit (.bool true)], args := [d1, d2] }
  | _ => none }
def fnExactPolUnderRow : OpenClaim := { program := "ytmlegiifceangaa", sum := "c3b69d9d9a5733a7be508cad44c044df538e72f04c36275232c007d24b1de095", func := "loop.example/latimer/laws.FnExactPolUnder", spec := "fnExactPolUnder", unfollowed := true, recurses := true, apart := false }
def FnExactPolUnderSaid : Prop := fnExactPolUnderRow.holds Try.pinned (OpenSpec.ofChange fnExactPolUnderSpec)

/-- ITS FALSE NEIGHBOUR: 'it returns false'. Refute it at one input. -/
def fnExactPolUnderWrong : ChangeSpec := { name := "fnExactPolUnder", fn := fun _ => fun
  | [d1, d2] => { results := [.lit (.bool false)], args := [d1, d2] }
  | _ => none }
def FnExactPolUnderWrongFalsely : Prop := fnExactPolUnderRow.holds Try.pinned (OpenSpec.ofChange fnExactPolUnderWrong)

/-- 'laws.FnExactPolOrder': WHATEVER THE INPUT: true; the input reads as it did. -/
def fnExactPolOrderSpec : ChangeSpec := { name := "fnExactPolOrder", fn := fun _ => fun
  | [d1, d2] => { results := [.lit (.bool true)], args := [d1, d2] }
  | _ => none }
def fnExactPolOrderRow : OpenClaim := { program := "ytmlegiifceangaa", sum := "c3b69d9d9a5733a7be508cad44c044df538e72f04c36275232c007d24b1de095", func := "loop.example/latimer/laws.FnExactPolOrder", spec := "fnExactPolOrder", apart := false }
def FnExactPolOrderSaid : Prop := fnExactPolOrderRow.holds Try.pinned (OpenSpec.ofChange fnExactPolOrderSpec)

/-- ITS FALSE NEIGHBOUR: 'it returns false'. Refute it at one input. -/
def fnExactPolOrderWrong : ChangeSpec := { name := "fnExactPolOrder", fn := fun _ => fun
  | [d1, d2] => { results := [.lit (.bool false)], args := [d1, d2] }
  | _ => none }
def FnExactPolOrderWrongFalsely : Prop := fnExactPolOrderRow.holds Try.pinned (OpenSpec.ofChange fnExactPolOrderWrong)

/-- 'laws.FnExactPolOk': WHATEVER THE INPUT: true; the input reads as it did. -/
def fnExactPolOkSpec : ChangeSpec := { name := "fnExactPolOk", fn := fun _ => fun
  | [d] => { results := [.lit (.bool true)], args := [d] }
  | _ => none }
def fnExactPolOkRow : OpenClaim := { program := "ytmlegiifceangaa", sum := "c3b69d9d9a5733a7be508cad44c044df538e72f04c36275232c007d24b1de095", func := "loop.example/latimer/laws.FnExactPolOk", spec := "fnExactPolOk", unfollowed := true, recurses := true, apart := false }
def FnExactPolOkSaid : Prop := fnExactPolOkRow.holds Try.pinned (OpenSpec.ofChange fnExactPolOkSpec)

/-- ITS FALSE NEIGHBOUR: 'it returns false'. Refute it at one input. -/
def fnExactPolOkWrong : ChangeSpec := { name := "fnExactPolOk", fn := fun _ => fun
  | [d] => { results := [.lit (.bool false)], args := [d] }
  | _ => none }
def FnExactPolOkWrongFalsely : Prop := fnExactPolOkRow.holds Try.pinned (OpenSpec.ofChange fnExactPolOkWrong)

/-- 'laws.FnExactPolNum': WHATEVER THE INPUT: true; the input reads as it did. -/
def fnExactPolNumSpec : ChangeSpec := { name := "fnExactPolNum", fn := fun _ => fun
  | [d] => { results := [.lit (.bool true)], args := [d] }
  | _ => none }
def fnExactPolNumRow : OpenClaim := { program := "ytmlegiifceangaa", sum := "c3b69d9d9a5733a7be508cad44c044df538e72f04c36275232c007d24b1de095", func := "loop.example/latimer/laws.FnExactPolNum", spec := "fnExactPolNum", unfollowed := true, recurses := true, apart := false }
def FnExactPolNumSaid : Prop := fnExactPolNumRow.holds Try.pinned (OpenSpec.ofChange fnExactPolNumSpec)

/-- ITS FALSE NEIGHBOUR: 'it returns false'. Refute it at one input. -/
def fnExactPolNumWrong : ChangeSpec := { name := "fnExactPolNum", fn := fun _ => fun
  | [d] => { results := [.lit (.bool false)], args := [d] }
  | _ => none }
def FnExactPolNumWrongFalsely : Prop := fnExactPolNumRow.holds Try.pinned (OpenSpec.ofChange fnExactPolNumWrong)

/-- 'laws.FnExactPolEval': WHATEVER THE INPUT: true; the input reads as it did. -/
def fnExactPolEvalSpec : ChangeSpec := { name := "fnExactPolEval", fn := fun _ => fun
  | [d1, d2] => { results := [.lit (.bool true)], args := [d1, d2] }
  | _ => none }
def fnExactPolEvalRow : OpenClaim := { program := "ytmlegiifceangaa", sum := "c3b69d9d9a5733a7be508cad44c044df538e72f04c36275232c007d24b1de095", func := "loop.example/latimer/laws.FnExactPolEval", spec := "fnExactPolEval", unfollowed := true, recurses := true, apart := false }
def FnExactPolEvalSaid : Prop := fnExactPolEvalRow.holds Try.pinned (OpenSpec.ofChange fnExactPolEvalSpec)

/-- ITS FALSE NEIGHBOUR: 'it returns false'. Refute it at one input. -/
def fnExactPolEvalWrong : ChangeSpec := { name := "fnExactPolEval", fn := fun _ => fun
  | [d1, d2] => { results := [.lit (.bool false)], args := [d1, d2] }
  | _ => none }
def FnExactPolEvalWrongFalsely : Prop := fnExactPolEvalRow.holds Try.pinned (OpenSpec.ofChange fnExactPolEvalWrong)

/-- 'laws.FnPolOrder': WHATEVER THE INPUT: true; the input reads as it did. -/
def fnPolOrderSpec : ChangeSpec := { name := "fnPolOrder", fn := fun _ => fun
  | [d] => { results := [.lit (.bool true)], args := [d] }
  | _ => none }
def fnPolOrderRow : OpenClaim := { program := "ytmlegiifceangaa", sum := "c3b69d9d9a5733a7be508cad44c044df538e72f04c36275232c007d24b1de095", func := "loop.example/latimer/laws.FnPolOrder", spec := "fnPolOrder", apart := false }
def FnPolOrderSaid : Prop := fnPolOrderRow.holds Try.pinned (OpenSpec.ofChange fnPolOrderSpec)

/-- ITS FALSE NEIGHBOUR: 'it returns false'. Refute it at one input. -/
def fnPolOrderWrong : ChangeSpec := { name := "fnPolOrder", fn := fun _ => fun
  | [d] => { results := [.lit (.bool false)], args := [d] }
  | _ => none }
def FnPolOrderWrongFalsely : Prop := fnPolOrderRow.holds Try.pinned (OpenSpec.ofChange fnPolOrderWrong)

/-- 'laws.FnPolUnder': WHATEVER THE INPUT: true; the input reads as it did. -/
def fnPolUnderSpec : ChangeSpec := { name := "fnPolUnder", fn := fun _ => fun
  | [d1, d2] => { results := [.lit (.bool true)], args := [d1, d2] }
  | _ => none }
def fnPolUnderRow : OpenClaim := { program := "ytmlegiifceangaa", sum := "c3b69d9d9a5733a7be508cad44c044df538e72f04c36275232c007d24b1de095", func := "loop.example/latimer/laws.FnPolUnder", spec := "fnPolUnder", unfollowed := true, recurses := true, apart := false }
def FnPolUnderSaid : Prop := fnPolUnderRow.holds Try.pinned (OpenSpec.ofChange fnPolUnderSpec)

/-- ITS FALSE NEIGHBOUR: 'it returns false'. Refute it at one input. -/
def fnPolUnderWrong : ChangeSpec := { name := "fnPolUnder", fn := fun _ => fun
  | [d1, d2] => { results := [.lit (.bool false)], args := [d1, d2] }
  | _ => none }
def FnPolUnderWrongFalsely : Prop := fnPolUnderRow.holds Try.pinned (OpenSpec.ofChange fnPolUnderWrong)

/-- 'laws.FnPolNum': WHATEVER THE INPUT: true; the input reads as it did. -/
def fnPolNumSpec : ChangeSpec := { name := "fnPolNum", fn := fun _ => fun
  | [d1, d2] => { results := [.lit (.bool true)], args := [d1, d2] }
  | _ => none }
def fnPolNumRow : OpenClaim := { program := "ytmlegiifceangaa", sum := "c3b69d9d9a5733a7be508cad44c044df538e72f04c36275232c007d24b1de095", func := "loop.example/latimer/laws.FnPolNum", spec := "fnPolNum", unfollowed := true, recurses := true, apart := false }
def FnPolNumSaid : Prop := fnPolNumRow.holds Try.pinned (OpenSpec.ofChange fnPolNumSpec)

/-- ITS FALSE NEIGHBOUR: 'it returns false'. Refute it at one input. -/
def fnPolNumWrong : ChangeSpec := { name := "fnPolNum", fn := fun _ => fun
  | [d1, d2] => { results := [.lit (.bool false)], args := [d1, d2] }
  | _ => none }
def FnPolNumWrongFalsely : Prop := fnPolNumRow.holds Try.pinned (OpenSpec.ofChange fnPolNumWrong)

/-- 'laws.FnExactTabOk': WHATEVER THE INPUT: true; the input reads as it did. -/
def fnExactTabOkSpec : ChangeSpec := { name := "fnExactTabOk", fn := fun _ => fun
  | [d] => { results := [.lit (.bool true)], args := [d] }
  | _ => none }
def fnExactTabOkRow : OpenClaim := { program := "ytmlegiifceangaa", sum := "c3b69d9d9a5733a7be508cad44c044df538e72f04c36275232c007d24b1de095", func := "loop.example/latimer/laws.FnExactTabOk", spec := "fnExactTabOk", unfollowed := true, recurses := true, apart := false }
def FnExactTabOkSaid : Prop := fnExactTabOkRow.holds Try.pinned (OpenSpec.ofChange fnExactTabOkSpec)

/-- ITS FALSE NEIGHBOUR: 'it returns false'. Refute it at one input. -/
def fnExactTabOkWrong : ChangeSpec := { name := "fnExactTabOk", fn := fun _ => fun
  | [d] => { results := [.lit (.bool false)], args := [d] }
  | _ => none }
def FnExactTabOkWrongFalsely : Prop := fnExactTabOkRow.holds Try.pinned (OpenSpec.ofChange fnExactTabOkWrong)

/-- 'laws.FnExactPolAdd': WHATEVER THE INPUT: true; the input reads as it did. -/
def fnExactPolAddSpec : ChangeSpec := { name := "fnExactPolAdd", fn := fun _ => fun
  | [d1, d2] => { results := [.lit (.bool true)], args := [d1, d2] }
  | _ => none }
def fnExactPolAddRow : OpenClaim := { program := "ytmlegiifceangaa", sum := "c3b69d9d9a5733a7be508cad44c044df538e72f04c36275232c007d24b1de095", func := "loop.example/latimer/laws.FnExactPolAdd", spec := "fnExactPolAdd", unfollowed := true, recurses := true, apart := false }
def FnExactPolAddSaid : Prop := fnExactPolAddRow.holds Try.pinned (OpenSpec.ofChange fnExactPolAddSpec)

/-- ITS FALSE NEIGHBOUR: 'it returns false'. Refute it at one input. -/
def fnExactPolAddWrong : ChangeSpec := { name := "fnExactPolAdd", fn := fun _ => fun
  | [d1, d2] => { results := [.lit (.bool false)], args := [d1, d2] }
  | _ => none }
def FnExactPolAddWrongFalsely : Prop := fnExactPolAddRow.holds Try.pinned (OpenSpec.ofChange fnExactPolAddWrong)

/-- 'laws.FnExactTabVals': WHATEVER THE INPUT: true; the input reads as it did. -/
def fnExactTabValsSpec : ChangeSpec := { name := "fnExactTabVals", fn := fun _ => fun
  | [d1, d2, d3, d4] => { results := [.lit (.bool true)], args := [d1, d2, d3, d4] }
  | _ => none }
def fnExactTabValsRow : OpenClaim := { program := "ytmlegiifceangaa", sum := "c3b69d9d9a5733a7be508cad44c044df538e72f04c36275232c007d24b1de095", func := "loop.example/latimer/laws.FnExactTabVals", spec := "fnExactTabVals", unfollowed := true, recurses := true, apart := false }
def FnExactTabValsSaid : Prop := fnExactTabValsRow.holds Try.pinned (OpenSpec.ofChange fnExactTabValsSpec)

/-- ITS FALSE NEIGHBOUR: 'it returns false'. Refute it at one input. -/
def fnExactTabValsWrong : ChangeSpec := { name := "fnExactTabVals", fn := fun _ => fun
  | [d1, d2, d3, d4] => { results := [.lit (.bool false)], args := [d1, d2, d3, d4] }
  | _ => none }
def FnExactTabValsWrongFalsely : Prop := fnExactTabValsRow.holds Try.pinned (OpenSpec.ofChange fnExactTabValsWrong)

/-- 'laws.FnExactPolScale': WHATEVER THE INPUT: true; the input reads as it did. -/
def fnExactPolScaleSpec : ChangeSpec := { name := "fnExactPolScale", fn := fun _ => fun
  | [d1, d2] => { results := [.lit (.bool true)], args := [d1, d2] }
  | _ => none }
def fnExactPolScaleRow : OpenClaim := { program := "ytmlegiifceangaa", sum := "c3b69d9d9a5733a7be508cad44c044df538e72f04c36275232c007d24b1de095", func := "loop.example/latimer/laws.FnExactPolScale", spec := "fnExactPolScale", unfollowed := true, recurses := true, apart := false }
def FnExactPolScaleSaid : Prop := fnExactPolScaleRow.holds Try.pinned (OpenSpec.ofChange fnExactPolScaleSpec)

/-- ITS FALSE NEIGHBOUR: 'it returns false'. Refute it at one input. -/
def fnExactPolScaleWrong : ChangeSpec := { name := "fnExactPolScale", fn := fun _ => fun
  | [d1, d2] => { results := [.lit (.bool false)], args := [d1, d2] }
  | _ => none }
def FnExactPolScaleWrongFalsely : Prop := fnExactPolScaleRow.holds Try.pinned (OpenSpec.ofChange fnExactPolScaleWrong)

/-- 'laws.FnExactPolMul': WHATEVER THE INPUT: true; the input reads as it did. -/
def fnExactPolMulSpec : ChangeSpec := { name := "fnExactPolMul", fn := fun _ => fun
  | [d1, d2] => { results := [.lit (.bool true)], args := [d1, d2] }
  | _ => none }
def fnExactPolMulRow : OpenClaim := { program := "ytmlegiifceangaa", sum := "c3b69d9d9a5733a7be508cad44c044df538e72f04c36275232c007d24b1de095", func := "loop.example/latimer/laws.FnExactPolMul", spec := "fnExactPolMul", unfollowed := true, recurses := true, apart := false }
def FnExactPolMulSaid : Prop := fnExactPolMulRow.holds Try.pinned (OpenSpec.ofChange fnExactPolMulSpec)

/-- ITS FALSE NEIGHBOUR: 'it returns false'. Refute it at one input. -/
def fnExactPolMulWrong : ChangeSpec := { name := "fnExactPolMul", fn := fun _ => fun
  | [d1, d2] => { results := [.lit (.bool false)], args := [d1, d2] }
  | _ => none }
def FnExactPolMulWrongFalsely : Prop := fnExactPolMulRow.holds Try.pinned (OpenSpec.ofChange fnExactPolMulWrong)

/-- 'laws.FnPolFit': WHATEVER THE INPUT: true; the input reads as it did. -/
def fnPolFitSpec : ChangeSpec := { name := "fnPolFit", fn := fun _ => fun
  | [d1, d2] => { results := [.lit (.bool true)], args := [d1, d2] }
  | _ => none }
def fnPolFitRow : OpenClaim := { program := "ytmlegiifceangaa", sum := "c3b69d9d9a5733a7be508cad44c044df538e72f04c36275232c007d24b1de095", func := "loop.example/latimer/laws.FnPolFit", spec := "fnPolFit", unfollowed := true, recurses := true, apart := false }
def FnPolFitSaid : Prop := fnPolFitRow.holds Try.pinned (OpenSpec.ofChange fnPolFitSpec)

/-- ITS FALSE NEIGHBOUR: 'it returns false'. Refute it at one input. -/
def fnPolFitWrong : ChangeSpec := { name := "fnPolFit", fn := fun _ => fun
  | [d1, d2] => { results := [.lit (.bool false)], args := [d1, d2] }
  | _ => none }
def FnPolFitWrongFalsely : Prop := fnPolFitRow.holds Try.pinned (OpenSpec.ofChange fnPolFitWrong)

/-- 'laws.FnPolTwice': WHATEVER THE INPUT: true; the input reads as it did. -/
def fnPolTwiceSpec : ChangeSpec := { name := "fnPolTwice", fn := fun _ => fun
  | [d] => { results := [.lit (.bool true)], args := [d] }
  | _ => none }
def fnPolTwiceRow : OpenClaim := { program := "ytmlegiifceangaa", sum := "c3b69d9d9a5733a7be508cad44c044df538e72f04c36275232c007d24b1de095", func := "loop.example/latimer/laws.FnPolTwice", spec := "fnPolTwice", unfollowed := true, recurses := true, apart := false }
def FnPolTwiceSaid : Prop := fnPolTwiceRow.holds Try.pinned (OpenSpec.ofChange fnPolTwiceSpec)

/-- ITS FALSE NEIGHBOUR: 'it returns false'. Refute it at one input. -/
def fnPolTwiceWrong : ChangeSpec := { name := "fnPolTwice", fn := fun _ => fun
  | [d] => { results := [.lit (.bool false)], args := [d] }
  | _ => none }
def FnPolTwiceWrongFalsely : Prop := fnPolTwiceRow.holds Try.pinned (OpenSpec.ofChange fnPolTwiceWrong)

/-- 'laws.FnPolRing': WHATEVER THE INPUT: true; the input reads as it did. -/
def fnPolRingSpec : ChangeSpec := { name := "fnPolRing", fn := fun _ => fun
  | [d1, d2] => { results := [.lit (.bool true)], args := [d1, d2] }
  | _ => none }
def fnPolRingRow : OpenClaim := { program := "ytmlegiifceangaa", sum := "c3b69d9d9a5733a7be508cad44c044df538e72f04c36275232c007d24b1de095", func := "loop.example/latimer/laws.FnPolRing", spec := "fnPolRing", unfollowed := true, recurses := true, apart := false }
def FnPolRingSaid : Prop := fnPolRingRow.holds Try.pinned (OpenSpec.ofChange fnPolRingSpec)

/-- ITS FALSE NEIGHBOUR: 'it returns false'. Refute it at one input. -/
def fnPolRingWrong : ChangeSpec := { name := "fnPolRing", fn := fun _ => fun
  | [d1, d2] => { results := [.lit (.bool false)], args := [d1, d2] }
  | _ => none }
def FnPolRingWrongFalsely : Prop := fnPolRingRow.holds Try.pinned (OpenSpec.ofChange fnPolRingWrong)

/- THE SECOND FORM. 'bulk': how many values and letters a reading holds, each counted each time it is reached (what is shared counts as often as it is met; a slice's spare places count too). A statement '..UptoSaid' is the law's where the arguments, and the package variables that the reading takes, are together of bulk at most 1048576: NARROWER than '..Said'. Prove '..Said' where nothing that the law and all that it calls make is longer than what came in: it says more and counts as full. Else prove '..UptoSaid'. A law counts once. -/
mutual
def uptoBulk {H : Type} : DataW H → Nat
  | .lit (.string bytes) => bytes.length + 1
  | .lit _ => 1
  | .nil => 1
  | .ptr d => uptoBulk d + 1
  | .slice elems spare => uptoBulkAll elems + uptoBulkAll spare + 1
  | .agg parts => uptoBulkAll parts + 1
  | .iface _ d => uptoBulk d + 1
  | .map entries => uptoBulkEntries entries + 1
  | .held _ => 1
def uptoBulkAll {H : Type} : List (DataW H) → Nat
  | [] => 0
  | d :: r => uptoBulk d + uptoBulkAll r
def uptoBulkEntries {H : Type} : List (Lit × DataW H) → Nat
  | [] => 0
  | x :: r => uptoBulkEntry x + uptoBulkEntries r
def uptoBulkEntry {H : Type} : Lit × DataW H → Nat
  | (.string bytes, d) => bytes.length + uptoBulk d + 1
  | (_, d) => uptoBulk d + 1
 end
def uptoSmall : (H : Type) → List (DataW H) → Bool := fun _ ds => decide (uptoBulkAll ds ≤ 1048576)
def OpenSpec.upto (s : _root_.Go.ChangeSpec) : _root_.Go.OpenSpec := { _root_.Go.OpenSpec.ofChange s with cond := some uptoSmall }

/-- 'laws.FnPolMul', WHERE WHAT IT READS IS OF BULK AT MOST 1048576: true; the input reads as it did. -/
def fnPolMulUptoRow : OpenClaim := { program := "ytmlegiifceangaa", sum := "c3b69d9d9a5733a7be508cad44c044df538e72f04c36275232c007d24b1de095", func := "loop.example/latimer/laws.FnPolMul", spec := "fnPolMul", unfollowed := true, recurses := true, apart := false, narrowed := true }
def FnPolMulUptoSaid : Prop := fnPolMulUptoRow.holds Try.pinned (OpenSpec.upto fnPolMulSpec)

/-- 'laws.FnPolScale', WHERE WHAT IT READS IS OF BULK AT MOST 1048576: true; the input reads as it did. -/
def fnPolScaleUptoRow : OpenClaim := { program := "ytmlegiifceangaa", sum := "c3b69d9d9a5733a7be508cad44c044df538e72f04c36275232c007d24b1de095", func := "loop.example/latimer/laws.FnPolScale", spec := "fnPolScale", unfollowed := true, recurses := true, apart := false, narrowed := true }
def FnPolScaleUptoSaid : Prop := fnPolScaleUptoRow.holds Try.pinned (OpenSpec.upto fnPolScaleSpec)

/-- 'laws.FnExactPolAtom', WHERE WHAT IT READS IS OF BULK AT MOST 1048576: true; the input reads as it did. -/
def fnExactPolAtomUptoRow : OpenClaim := { program := "ytmlegiifceangaa", sum := "c3b69d9d9a5733a7be508cad44c044df538e72f04c36275232c007d24b1de095", func := "loop.example/latimer/laws.FnExactPolAtom", spec := "fnExactPolAtom", apart := false, narrowed := true }
def FnExactPolAtomUptoSaid : Prop := fnExactPolAtomUptoRow.holds Try.pinned (OpenSpec.upto fnExactPolAtomSpec)

/-- 'laws.FnExactPolConst', WHERE WHAT IT READS IS OF BULK AT MOST 1048576: true; the input reads as it did. -/
def fnExactPolConstUptoRow : OpenClaim := { program := "ytmlegiifceangaa", sum := "c3b69d9d9a5733a7be508cad44c044df538e72f04c36275232c007d24b1de095", func := "loop.example/latimer/laws.FnExactPolConst", spec := "fnExactPolConst", apart := false, narrowed := true }
def FnExactPolConstUptoSaid : Prop := fnExactPolConstUptoRow.holds Try.pinned (OpenSpec.upto fnExactPolConstSpec)

/-- 'laws.FnPolAdd', WHERE WHAT IT READS IS OF BULK AT MOST 1048576: true; the input reads as it did. -/
def fnPolAddUptoRow : OpenClaim := { program := "ytmlegiifceangaa", sum := "c3b69d9d9a5733a7be508cad44c044df538e72f04c36275232c007d24b1de095", func := "loop.example/latimer/laws.FnPolAdd", spec := "fnPolAdd", unfollowed := true, recurses := true, apart := false, narrowed := true }
def FnPolAddUptoSaid : Prop := fnPolAddUptoRow.holds Try.pinned (OpenSpec.upto fnPolAddSpec)

/-- 'laws.FnExactPolUnder', WHERE WHAT IT READS IS OF BULK AT MOST 1048576: true; the input reads as it did. -/
def fnExactPolUnderUptoRow : OpenClaim := { program := "ytmlegiifceangaa", sum := "c3b69d9d9a5733a7be508cad44c044df538e72f04c36275232c007d24b1de095", func := "loop.example/latimer/laws.FnExactPolUnder", spec := "fnExactPolUnder", unfollowed := true, recurses := true, apart := false, narrowed := true }
def FnExactPolUnderUptoSaid : Prop := fnExactPolUnderUptoRow.holds Try.pinned (OpenSpec.upto fnExactPolUnderSpec)

/-- 'laws.FnExactPolOrder', WHERE WHAT IT READS IS OF BULK AT MOST 1048576: true; the input reads as it did. -/
def fnExactPolOrderUptoRow : OpenClaim := { program := "ytmlegiifceangaa", sum := "c3b69d9d9a5733a7be508cad44c044df538e72f04c36275232c007d24b1de095", func := "loop.example/latimer/laws.FnExactPolOrder", spec := "fnExactPolOrder", apart := false, narrowed := true }
def FnExactPolOrderUptoSaid : Prop := fnExactPolOrderUptoRow.holds Try.pinned (OpenSpec.upto fnExactPolOrderSpec)

/-- 'laws.FnExactPolOk', WHERE WHAT IT READS IS OF BULK AT MOST 1048576: true; the input reads as it did. -/
def fnExactPolOkUptoRow : OpenClaim := { program := "ytmlegiifceangaa", sum := "c3b69d9d9a5733a7be508cad44c044df538e72f04c36275232c007d24b1de095", func := "loop.example/latimer/laws.FnExactPolOk", spec := "fnExactPolOk", unfollowed := true, recurses := true, apart := false, narrowed := true }
def FnExactPolOkUptoSaid : Prop := fnExactPolOkUptoRow.holds Try.pinned (OpenSpec.upto fnExactPolOkSpec)

/-- 'laws.FnExactPolNum', WHERE WHAT IT READS IS OF BULK AT MOST 1048576: true; the input reads as it did. -/
def fnExactPolNumUptoRow : OpenClaim := { program := "ytmlegiifceangaa", sum := "c3b69d9d9a5733a7be508cad44c044df538e72f04c36275232c007d24b1de095", func := "loop.example/latimer/laws.FnExactPolNum", spec := "fnExactPolNum", unfollowed := true, recurses := true, apart := false, narrowed := true }
def FnExactPolNumUptoSaid : Prop := fnExactPolNumUptoRow.holds Try.pinned (OpenSpec.upto fnExactPolNumSpec)

/-- 'laws.FnExactPolEval', WHERE WHAT IT READS IS OF BULK AT MOST 1048576: true; the input reads as it did. -/
def fnExactPolEvalUptoRow : OpenClaim := { program := "ytmlegiifceangaa", sum := "c3b69d9d9a5733a7be508cad44c044df538e72f04c36275232c007d24b1de095", func := "loop.example/latimer/laws.FnExactPolEval", spec := "fnExactPolEval", unfollowed := true, recurses := true, apart := false, narrowed := true }
def FnExactPolEvalUptoSaid : Prop := fnExactPolEvalUptoRow.holds Try.pinned (OpenSpec.upto fnExactPolEvalSpec)

/-- 'laws.FnPolOrder', WHERE WHAT IT READS IS OF BULK AT MOST 1048576: true; the input reads as it did. -/
def fnPolOrderUptoRow : OpenClaim := { program := "ytmlegiifceangaa", sum := "c3b69d9d9a5733a7be508cad44c044df538e72f04c36275232c007d24b1de095", func := "loop.example/latimer/laws.FnPolOrder", spec := "fnPolOrder", apart := false, narrowed := true }
def FnPolOrderUptoSaid : Prop := fnPolOrderUptoRow.holds Try.pinned (OpenSpec.upto fnPolOrderSpec)

/-- 'laws.FnPolUnder', WHERE WHAT IT READS IS OF BULK AT MOST 1048576: true; the input reads as it did. -/
def fnPolUnderUptoRow : OpenClaim := { program := "ytmlegiifceangaa", sum := "c3b69d9d9a5733a7be508cad44c044df538e72f04c36275232c007d24b1de095", func := "loop.example/latimer/laws.FnPolUnder", spec := "fnPolUnder", unfollowed := true, recurses := true, apart := false, narrowed := true }
def FnPolUnderUptoSaid : Prop := fnPolUnderUptoRow.holds Try.pinned (OpenSpec.upto fnPolUnderSpec)

/-- 'laws.FnPolNum', WHERE WHAT IT READS IS OF BULK AT MOST 1048576: true; the input reads as it did. -/
def fnPolNumUptoRow : OpenClaim := { program := "ytmlegiifceangaa", sum := "c3b69d9d9a5733a7be508cad44c044df538e72f04c36275232c007d24b1de095", func := "loop.example/latimer/laws.FnPolNum", spec := "fnPolNum", unfollowed := true, recurses := true, apart := false, narrowed := true }
def FnPolNumUptoSaid : Prop := fnPolNumUptoRow.holds Try.pinned (OpenSpec.upto fnPolNumSpec)

/-- 'laws.FnExactTabOk', WHERE WHAT IT READS IS OF BULK AT MOST 1048576: true; the input reads as it did. -/
def fnExactTabOkUptoRow : OpenClaim := { program := "ytmlegiifceangaa", sum := "c3b69d9d9a5733a7be508cad44c044df538e72f04c36275232c007d24b1de095", func := "loop.example/latimer/laws.FnExactTabOk", spec := "fnExactTabOk", unfollowed := true, recurses := true, apart := false, narrowed := true }
def FnExactTabOkUptoSaid : Prop := fnExactTabOkUptoRow.holds Try.pinned (OpenSpec.upto fnExactTabOkSpec)

/-- 'laws.FnExactPolAdd', WHERE WHAT IT READS IS OF BULK AT MOST 1048576: true; the input reads as it did. -/
def fnExactPolAddUptoRow : OpenClaim := { program := "ytmlegiifceangaa", sum := "c3b69d9d9a5733a7be508cad44c044df538e72f04c36275232c007d24b1de095", func := "loop.example/latimer/laws.FnExactPolAdd", spec := "fnExactPolAdd", unfollowed := true, recurses := true, apart := false, narrowed := true }
def FnExactPolAddUptoSaid : Prop := fnExactPolAddUptoRow.holds Try.pinned (OpenSpec.upto fnExactPolAddSpec)

/-- 'laws.FnExactTabVals', WHERE WHAT IT READS IS OF BULK AT MOST 1048576: true; the input reads as it did. -/
def fnExactTabValsUptoRow : OpenClaim := { program := "ytmlegiifceangaa", sum := "c3b69d9d9a5733a7be508cad44c044df538e72f04c36275232c007d24b1de095", func := "loop.example/latimer/laws.FnExactTabVals", spec := "fnExactTabVals", unfollowed := true, recurses := true, apart := false, narrowed := true }
def FnExactTabValsUptoSaid : Prop := fnExactTabValsUptoRow.holds Try.pinned (OpenSpec.upto fnExactTabValsSpec)

/-- 'laws.FnExactPolScale', WHERE WHAT IT READS IS OF BULK AT MOST 1048576: true; the input reads as it did. -/
def fnExactPolScaleUptoRow : OpenClaim := { program := "ytmlegiifceangaa", sum := "c3b69d9d9a5733a7be508cad44c044df538e72f04c36275232c007d24b1de095", func := "loop.example/latimer/laws.FnExactPolScale", spec := "fnExactPolScale", unfollowed := true, recurses := true, apart := false, narrowed := true }
def FnExactPolScaleUptoSaid : Prop := fnExactPolScaleUptoRow.holds Try.pinned (OpenSpec.upto fnExactPolScaleSpec)

/-- 'laws.FnExactPolMul', WHERE WHAT IT READS IS OF BULK AT MOST 1048576: true; the input reads as it did. -/
def fnExactPolMulUptoRow : OpenClaim := { program := "ytmlegiifceangaa", sum := "c3b69d9d9a5733a7be508cad44c044df538e72f04c36275232c007d24b1de095", func := "loop.example/latimer/laws.FnExactPolMul", spec := "fnExactPolMul", unfollowed := true, recurses := true, apart := false, narrowed := true }
def FnExactPolMulUptoSaid : Prop := fnExactPolMulUptoRow.holds Try.pinned (OpenSpec.upto fnExactPolMulSpec)

/-- 'laws.FnPolFit', WHERE WHAT IT READS IS OF BULK AT MOST 1048576: true; the input reads as it did. -/
def fnPolFitUptoRow : OpenClaim := { program := "ytmlegiifceangaa", sum := "c3b69d9d9a5733a7be508cad44c044df538e72f04c36275232c007d24b1de095", func := "loop.example/latimer/laws.FnPolFit", spec := "fnPolFit", unfollowed := true, recurses := true, apart := false, narrowed := true }
def FnPolFitUptoSaid : Prop := fnPolFitUptoRow.holds Try.pinned (OpenSpec.upto fnPolFitSpec)

/-- 'laws.FnPolTwice', WHERE WHAT IT READS IS OF BULK AT MOST 1048576: true; the input reads as it did. -/
def fnPolTwiceUptoRow : OpenClaim := { program := "ytmlegiifceangaa", sum := "c3b69d9d9a5733a7be508cad44c044df538e72f04c36275232c007d24b1de095", func := "loop.example/latimer/laws.FnPolTwice", spec := "fnPolTwice", unfollowed := true, recurses := true, apart := false, narrowed := true }
def FnPolTwiceUptoSaid : Prop := fnPolTwiceUptoRow.holds Try.pinned (OpenSpec.upto fnPolTwiceSpec)

/-- 'laws.FnPolRing', WHERE WHAT IT READS IS OF BULK AT MOST 1048576: true; the input reads as it did. -/
def fnPolRingUptoRow : OpenClaim := { program := "ytmlegiifceangaa", sum := "c3b69d9d9a5733a7be508cad44c044df538e72f04c36275232c007d24b1de095", func := "loop.example/latimer/laws.FnPolRing", spec := "fnPolRing", unfollowed := true, recurses := true, apart := false, narrowed := true }
def FnPolRingUptoSaid : Prop := fnPolRingUptoRow.holds Try.pinned (OpenSpec.upto fnPolRingSpec)

end Rows
end Go.Proofs.Ytmlegiifceangaa
