/- How the arguments of the laws read, type by type. Conditions: none. -/
import Derived.Test.YtldohgjembbcmaaDoorRows
import Derived.Test.YtldohgjembbcmaaDoorR
import Derived.ShutString
namespace Go.Proofs.YtldohgjembbcmaaDoor
open Go Go.RowKit Go.WideShapes Go.Deep Go.ChangeShapes
set_option linter.unusedVariables false
set_option linter.unusedSimpArgs false

theorem ownKnob_ : ownKnob Tryd.prog.godebug = none := by kernel_rfl
theorem laidOut_ : laidOutB Tryd.prog = true := by kernel_rfl

set_option maxRecDepth 100000 in
theorem read_int {H : Type} {enc : TypeId × Value → H} {W : World} {base : Nat} {v : Value} {d : DataW H} {p : List MemPlace} (hv : Value.okWide Tryd.prog W .any base 3 v) (h : DataW.Trod enc Tryd.prog W 0 (fun _ => true) true 3 v d p) :
    ∃ a : Int, v = .int .i64 a ∧ (Lit.int .i64 a).wf = true := by
  obtain ⟨a, e, _, _, w⟩ := open_int Tryd.underlying3 hv h
  exact ⟨a, e, w⟩

set_option maxRecDepth 100000 in
theorem read_ints {H : Type} {enc : TypeId × Value → H} {W : World} {base : Nat} {v : Value} {d : DataW H} {p : List MemPlace} (hv : Value.okWide Tryd.prog W .any base 45 v) (h : DataW.Trod enc Tryd.prog W 0 (fun _ => true) true 45 v d p) :
    ∃ (A : Option Addr) (k : Nat) (xs : List Int), v = .slice A xs.length k ∧ AI W A xs ∧ xs.length ≤ 9223372036854775807 := by
  obtain ⟨a, len, cap, rfl⟩ := okWide_slice Tryd.underlying45 hv
  obtain ⟨fuel, hf⟩ := h
  obtain ⟨A, k, xs, e, h1, h2⟩ := trod_ints Tryd.underlying45 Tryd.underlying3 (by kernel_rfl) hf
  simp only [Value.cells] at e
  injection e with e _
  exact ⟨A, k, xs, e, h1, h2⟩



set_option maxRecDepth 100000 in
theorem read_bytes {H : Type} {enc : TypeId × Value → H} {W : World} {base : Nat} {v : Value} {d : DataW H} {p : List MemPlace} (hv : Value.okWide Tryd.prog W .any base 27 v) (h : DataW.Trod enc Tryd.prog W 0 (fun _ => true) true 27 v d p) :
    ∃ (A : Option Addr) (k : Nat) (xs : List Int), v = .slice A xs.length k ∧ AB W A xs ∧ (xs.length ≤ 9223372036854775807 ∧ xs.length ≤ k) := by
  obtain ⟨a, len, cap, rfl⟩ := okWide_slice Tryd.underlying27 hv
  obtain ⟨fuel, hf⟩ := h
  obtain ⟨A, k, xs, e, h1, h2, h3⟩ := trod_bytes Tryd.underlying27 Tryd.underlying5 (by kernel_rfl) hf
  simp only [Value.cells] at e
  injection e with e _
  exact ⟨A, k, xs, e, h1, h2, h3⟩
end Go.Proofs.YtldohgjembbcmaaDoor
