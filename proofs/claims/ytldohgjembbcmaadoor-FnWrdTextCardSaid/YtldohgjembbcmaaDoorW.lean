/- Contracts of the functions on words: each returns what a plain function says. Conditions: none. -/
import Derived.Test.YtldohgjembbcmaaDoorProg
import Derived.Test.YtldohgjembbcmaaDoorL
import Derived.Outline
namespace Go.Proofs.YtldohgjembbcmaaDoor
open Go Go.RowKit

def inB (n lo hi : Int) : Bool := decide (lo ≤ n) && decide (n ≤ hi)
def wrdOk (n : Int) : Bool := decide (0 ≤ n) && decide (n < 65536)
def wrap (n : Int) : Int := n % 65536

theorem wrap_bits (n : Int) : bits BinOp.and IntKind.i64 n 65535 = wrap n := by
  show IntKind.i64.wrap ((BitVec.ofInt 64 n &&& BitVec.ofInt 64 65535).toNat : Int) = _
  have h : (BitVec.ofInt 64 n &&& BitVec.ofInt 64 65535).toNat = (n % 18446744073709551616).toNat % 65536 := by
    rw [BitVec.toNat_and]
    have e : (BitVec.ofInt 64 65535).toNat = 2 ^ 16 - 1 := by decide
    rw [e, Nat.and_two_pow_sub_one_eq_mod, BitVec.toNat_ofInt]
    rfl
  rw [h, IntKind.wrap_i64, wrap]
  omega

theorem wrap_tmod_neg {n : Int} (h : n.tmod 65536 < 0) : n.tmod 65536 + 65536 = wrap n := by
  unfold wrap
  rw [Int.tmod_eq_emod] at h ⊢
  split at h <;> rename_i hc
  · omega
  · rw [if_neg hc]; omega
theorem wrap_tmod_pos {n : Int} (h : 0 ≤ n.tmod 65536) : n.tmod 65536 = wrap n := by
  unfold wrap
  rw [Int.tmod_eq_emod] at h ⊢
  split at h <;> rename_i hc
  · rw [if_pos hc]; omega
  · rw [if_neg hc]; omega
theorem tmod_bounds (n : Int) : -65536 < n.tmod 65536 ∧ n.tmod 65536 < 65536 := by
  rw [Int.tmod_eq_emod]
  split <;> omega
theorem wrap_wrap64 (n : Int) : wrap (wrap64 n) = wrap n := by unfold wrap wrap64; omega
theorem wrap_bounds (n : Int) : 0 ≤ wrap n ∧ wrap n < 65536 := by unfold wrap; omega

theorem implIn (n lo hi : Int) (w : World) :
    Calls Tryd.prog 23 #[.int .i64 n, .int .i64 lo, .int .i64 hi] w fun e w' => e = .returned (.bool (inB n lo hi)) ∧ w = w' := by
  go_enter Tryd.func23, Tryd.ntmps23
  go_wp2
  all_goals
    go_ret
    exact ⟨ret_bool (by simp only [inB]; simp; try omega), rfl⟩

theorem implWrdOk (n : Int) (w : World) :
    Calls Tryd.prog 15 #[.int .i64 n] w fun e w' => e = .returned (.bool (wrdOk n)) ∧ w = w' := by
  go_enter Tryd.func15, Tryd.ntmps15
  go_wp2_with (go_at_call 23; refine (implIn _ _ _ _).mono ?_; rintro e w' ⟨rfl, rfl⟩)
  go_ret
  exact ⟨ret_bool (by simp only [inB, wrdOk]; congr 1; simp; omega), rfl⟩







theorem specWrdOk (n : Int) (w : World) :
    Calls Tryd.prog 12 #[.int .i64 n] w fun e w' => e = .returned (.bool (wrdOk n)) ∧ w = w' := by
  go_enter Tryd.func12, Tryd.ntmps12
  go_wp2
  all_goals
    go_ret
    exact ⟨ret_bool (by simp only [wrdOk]; simp; try omega), rfl⟩





def wrdRel (r a b : Int) : Bool := wrdOk a && wrdOk b && ((r == 1 && a == b) || (r == 2 && decide (a < b)))





def insEnds (n : Int) : Bool := inB n 11 13





/-- The result of an operation. -/
def wrdDo (op a b : Int) : Int :=
  if wrdOk a && wrdOk b then
    if op = 1 then wrap (a + b) else if op = 2 then wrap (a - b) else if op = 3 then wrap (a * b) else if op = 4 then bits .and .i64 a b else if op = 5 then bits .xor .i64 a b else 0
  else 0





def wordsB (xs : List Int) : Bool := xs.all wrdOk

theorem wordsB_of {xs : List Int} (h : ∀ i, i < xs.length → ∀ x, xs[i]? = some x → wrdOk x = true) : wordsB xs = true := by
  unfold wordsB
  rw [List.all_eq_true]
  intro x hx
  obtain ⟨i, hi, rfl⟩ := List.getElem_of_mem hx
  exact h i hi _ (List.getElem?_eq_getElem hi)
theorem wordsB_not {xs : List Int} {i : Nat} {x : Int} (hx : xs[i]? = some x) (h : wrdOk x = false) : wordsB xs = false := by
  unfold wordsB
  rw [List.all_eq_false]
  exact ⟨x, List.mem_of_getElem? hx, by simp [h]⟩





end Go.Proofs.YtldohgjembbcmaaDoor
