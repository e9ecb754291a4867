/- How the arguments of the laws read, type by type. Conditions: none. -/
import Derived.Test.YtkdggfkigjpbfaaRows
import Derived.Test.YtkdggfkigjpbfaaR
import Derived.ShutString
namespace Go.Proofs.Ytkdggfkigjpbfaa
open Go Go.RowKit Go.WideShapes Go.Deep Go.ChangeShapes
set_option linter.unusedVariables false
set_option linter.unusedSimpArgs false

theorem ownKnob_ : ownKnob Try.prog.godebug = none := by kernel_rfl
theorem laidOut_ : laidOutB Try.prog = true := by kernel_rfl

set_option maxRecDepth 100000 in
theorem read_int {H : Type} {enc : TypeId × Value → H} {W : World} {base : Nat} {v : Value} {d : DataW H} {p : List MemPlace} (hv : Value.okWide Try.prog W .any base 3 v) (h : DataW.Trod enc Try.prog W 0 (fun _ => true) true 3 v d p) :
    ∃ a : Int, v = .int .i64 a ∧ (Lit.int .i64 a).wf = true := by
  obtain ⟨a, e, _, _, w⟩ := open_int Try.underlying3 hv h
  exact ⟨a, e, w⟩

set_option maxRecDepth 100000 in
theorem read_ints {H : Type} {enc : TypeId × Value → H} {W : World} {base : Nat} {v : Value} {d : DataW H} {p : List MemPlace} (hv : Value.okWide Try.prog W .any base 33 v) (h : DataW.Trod enc Try.prog W 0 (fun _ => true) true 33 v d p) :
    ∃ (A : Option Addr) (k : Nat) (xs : List Int), v = .slice A xs.length k ∧ AI W A xs ∧ xs.length ≤ 9223372036854775807 := by
  obtain ⟨a, len, cap, rfl⟩ := okWide_slice Try.underlying33 hv
  obtain ⟨fuel, hf⟩ := h
  obtain ⟨A, k, xs, e, h1, h2⟩ := trod_ints Try.underlying33 Try.underlying3 (by kernel_rfl) hf
  simp only [Value.cells] at e
  injection e with e _
  exact ⟨A, k, xs, e, h1, h2⟩

set_option maxRecDepth 100000 in
theorem read_poly {H : Type} {enc : TypeId × Value → H} {W : World} {base : Nat} {v : Value} {d : DataW H} {p : List MemPlace} (hv : Value.okWide Try.prog W .any base 60 v) (h : DataW.Trod enc Try.prog W 0 (fun _ => true) true 60 v d p) :
    ∃ (A : Option Addr) (k : Nat) (ms : List Mn), v = .agg #[.slice A ms.length k] ∧ AM W A ms ∧ SzA ms := by
  obtain ⟨cs, rfl, hsz⟩ := okWide_struct Try.underlying60 hv
  obtain ⟨fuel, hf⟩ := h
  obtain ⟨v0, n, y0, e, h0⟩ := trod_one Try.underlying60 rfl (by kernel_rfl) (by kernel_rfl) hf
  obtain ⟨A, k, ms, e', h1, h2⟩ := trod_monos Try.underlying58 Try.underlying90 rfl rfl (by kernel_rfl) (by kernel_rfl) (by kernel_rfl) Try.underlying3 Try.underlying33 Try.underlying3 (by kernel_rfl) h0
  injection e' with e' _
  subst e'
  obtain ⟨l⟩ := cs
  simp only [Value.cells] at e
  exact ⟨A, k, ms, by rw [show l = [_] from e], h1, h2⟩

