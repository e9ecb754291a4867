/- How the arguments of the laws read, type by type. Conditions: none. -/
import Derived.Test.YtcjeeggffeoilaaRows
import Derived.Test.YtcjeeggffeoilaaR
import Derived.ShutString
namespace Go.Proofs.Ytcjeeggffeoilaa
open Go Go.RowKit Go.WideShapes Go.Deep Go.ChangeShapes
set_option linter.unusedVariables false
set_option linter.unusedSimpArgs false

theorem ownKnob_ : ownKnob Try.prog.godebug = none := by kernel_rfl
theorem laidOut_ : laidOutB Try.prog = true := by kernel_rfl

set_option maxRecDepth 100000 in
theorem read_int {H : Type} {enc : TypeId × Value → H} {W : World} {base : Nat} {v : Value} {d : DataW H} {p : List MemPlace} (hv : Value.okWide Try.prog W .any base 3 v) (h : DataW.Trod enc Try.prog W 0 (fun _ => true) true 3 v d p) :
    ∃ a : Int, v = .int .i64 a ∧ (Lit.int .i64 a).wf = true := by
  obtain ⟨a, e, _, _, w⟩ := open_int Try.underlying3 hv h
  exact ⟨a, e, w⟩

set_option maxRecDepth 100000 in
theorem read_ints {H : Type} {enc : TypeId × Value → H} {W : World} {base : Nat} {v : Value} {d : DataW H} {p : List MemPlace} (hv : Value.okWide Try.prog W .any base 23 v) (h : DataW.Trod enc Try.prog W 0 (fun _ => true) true 23 v d p) :
    ∃ (A : Option Addr) (k : Nat) (xs : List Int), v = .slice A xs.length k ∧ AI W A xs ∧ xs.length ≤ 9223372036854775807 := by
  obtain ⟨a, len, cap, rfl⟩ := okWide_slice Try.underlying23 hv
  obtain ⟨fuel, hf⟩ := h
  obtain ⟨A, k, xs, e, h1, h2⟩ := trod_ints Try.underlying23 Try.underlying3 (by kernel_rfl) hf
  simp only [Value.cells] at e
  injection e with e _
  exact ⟨A, k, xs, e, h1, h2⟩



set_option maxRecDepth 100000 in
theorem read_bytes {H : Type} {enc : TypeId × Value → H} {W : World} {base : Nat} {v : Value} {d : DataW H} {p : List MemPlace} (hv : Value.okWide Try.prog W .any base 22 v) (h : DataW.Trod enc Try.prog W 0 (fun _ => true) true 22 v d p) :
    ∃ (A : Option Addr) (k : Nat) (xs : List Int), v = .slice A xs.length k ∧ AB W A xs ∧ (xs.length ≤ 9223372036854775807 ∧ xs.length ≤ k) := by
  obtain ⟨a, len, cap, rfl⟩ := okWide_slice Try.underlying22 hv
  obtain ⟨fuel, hf⟩ := h
  obtain ⟨A, k, xs, e, h1, h2, h3⟩ := trod_bytes Try.underlying22 Try.underlying5 (by kernel_rfl) hf
  simp only [Value.cells] at e
  injection e with e _
  exact ⟨A, k, xs, e, h1, h2, h3⟩
end Go.Proofs.Ytcjeeggffeoilaa
