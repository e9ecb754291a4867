/- Contracts of the functions on words: each returns what a plain function says. Conditions: none. -/
import Derived.Test.YtcjeeggffeoilaaProg
import Derived.Test.YtcjeeggffeoilaaL
import Derived.Outline
namespace Go.Proofs.Ytcjeeggffeoilaa
open Go Go.RowKit

def inB (n lo hi : Int) : Bool := decide (lo ≤ n) && decide (n ≤ hi)
def wrdOk (n : Int) : Bool := decide (0 ≤ n) && decide (n < 65536)
def wrap (n : Int) : Int := n % 65536

theorem wrap_bits (n : Int) : bits BinOp.and IntKind.i64 n 65535 = wrap n := by
  show IntKind.i64.wrap ((BitVec.ofInt 64 n &&& BitVec.ofInt 64 65535).toNat : Int) = _
  have h : (BitVec.ofInt 64 n &&& BitVec.ofInt 64 65535).toNat = (n % 18446744073709551616).toNat % 65536 := by
    rw [BitVec.toNat_and]
    have e : (BitVec.ofInt 64 65535).toNat = 2 ^ 16 - 1 := by decide
    rw [e, Nat.and_two_pow_sub_one_eq_mod, BitVec.toNat_ofInt]
    rfl
  rw [h, IntKind.wrap_i64, wrap]
  omega

theorem wrap_tmod_neg {n : Int} (h : n.tmod 65536 < 0) : n.tmod 65536 + 65536 = wrap n := by
  unfold wrap
  rw [Int.tmod_eq_emod] at h ⊢
  split at h <;> rename_i hc
  · omega
  · rw [if_neg hc]; omega
theorem wrap_tmod_pos {n : Int} (h : 0 ≤ n.tmod 65536) : n.tmod 65536 = wrap n := by
  unfold wrap
  rw [Int.tmod_eq_emod] at h ⊢
  split at h <;> rename_i hc
  · rw [if_pos hc]; omega
  · rw [if_neg hc]; omega
theorem tmod_bounds (n : Int) : -65536 < n.tmod 65536 ∧ n.tmod 65536 < 65536 := by
  rw [Int.tmod_eq_emod]
  split <;> omega
theorem wrap_wrap64 (n : Int) : wrap (wrap64 n) = wrap n := by unfold wrap wrap64; omega
theorem wrap_bounds (n : Int) : 0 ≤ wrap n ∧ wrap n < 65536 := by unfold wrap; omega

theorem implIn (n lo hi : Int) (w : World) :
    Calls Try.prog 32 #[.int .i64 n, .int .i64 lo, .int .i64 hi] w fun e w' => e = .returned (.bool (inB n lo hi)) ∧ w = w' := by
  go_enter Try.func32, Try.ntmps32
  go_wp2
  all_goals
    go_ret
    exact ⟨ret_bool (by simp only [inB]; simp; try omega), rfl⟩

theorem implWrdOk (n : Int) (w : World) :
    Calls Try.prog 31 #[.int .i64 n] w fun e w' => e = .returned (.bool (wrdOk n)) ∧ w = w' := by
  go_enter Try.func31, Try.ntmps31
  go_wp2_with (go_at_call 32; refine (implIn _ _ _ _).mono ?_; rintro e w' ⟨rfl, rfl⟩)
  go_ret
  exact ⟨ret_bool (by simp only [inB, wrdOk]; congr 1; simp; omega), rfl⟩

theorem implIsOp (n : Int) (w : World) :
    Calls Try.prog 48 #[.int .i64 n] w fun e w' => e = .returned (.bool (inB n 1 5)) ∧ w = w' := by
  go_enter Try.func48, Try.ntmps48
  go_wp2_with (go_at_call 32; refine (implIn _ _ _ _).mono ?_; rintro e w' ⟨rfl, rfl⟩)
  go_ret
  exact ⟨rfl, rfl⟩

theorem implIsReg (n : Int) (w : World) :
    Calls Try.prog 47 #[.int .i64 n] w fun e w' => e = .returned (.bool (inB n 0 3)) ∧ w = w' := by
  go_enter Try.func47, Try.ntmps47
  go_wp2_with (go_at_call 32; refine (implIn _ _ _ _).mono ?_; rintro e w' ⟨rfl, rfl⟩)
  go_ret
  exact ⟨rfl, rfl⟩

theorem specL1In (n lo hi : Int) (w : World) :
    Calls Try.prog 35 #[.int .i64 n, .int .i64 lo, .int .i64 hi] w fun e w' => e = .returned (.bool (inB n lo hi)) ∧ w = w' := by
  go_enter Try.func35, Try.ntmps35
  go_wp2
  all_goals
    go_ret
    exact ⟨ret_bool (by simp only [inB]; simp; try omega), rfl⟩

theorem specWrdOk (n : Int) (w : World) :
    Calls Try.prog 43 #[.int .i64 n] w fun e w' => e = .returned (.bool (wrdOk n)) ∧ w = w' := by
  go_enter Try.func43, Try.ntmps43
  go_wp2
  all_goals
    go_ret
    exact ⟨ret_bool (by simp only [wrdOk]; simp; try omega), rfl⟩





def wrdRel (r a b : Int) : Bool := wrdOk a && wrdOk b && ((r == 1 && a == b) || (r == 2 && decide (a < b)))





def insEnds (n : Int) : Bool := inB n 11 13





/-- The result of an operation. -/
def wrdDo (op a b : Int) : Int :=
  if wrdOk a && wrdOk b then
    if op = 1 then wrap (a + b) else if op = 2 then wrap (a - b) else if op = 3 then wrap (a * b) else if op = 4 then bits .and .i64 a b else if op = 5 then bits .xor .i64 a b else 0
  else 0





def wordsB (xs : List Int) : Bool := xs.all wrdOk

theorem wordsB_of {xs : List Int} (h : ∀ i, i < xs.length → ∀ x, xs[i]? = some x → wrdOk x = true) : wordsB xs = true := by
  unfold wordsB
  rw [List.all_eq_true]
  intro x hx
  obtain ⟨i, hi, rfl⟩ := List.getElem_of_mem hx
  exact h i hi _ (List.getElem?_eq_getElem hi)
theorem wordsB_not {xs : List Int} {i : Nat} {x : Int} (hx : xs[i]? = some x) (h : wrdOk x = false) : wordsB xs = false := by
  unfold wordsB
  rw [List.all_eq_false]
  exact ⟨x, List.mem_of_getElem? hx, by simp [h]⟩

theorem implWordsOk (A : Option Addr) (k : Nat) (xs : List Int) (w : World) (h : RI 3 w A xs) (hn : xs.length < 4611686018427387904) :
    Calls Try.prog 28 #[.slice A xs.length k] w fun e w' => e = .returned (.bool (wordsB xs)) ∧ w = w' := by
  go_enter Try.func28, Try.ntmps28
  go_wp2
  go_loop [7] (fun i => ∃ j : Nat, j ≤ xs.length ∧ i = .int .i64 j ∧ ∀ t, t < j → ∀ x, xs[t]? = some x → wrdOk x = true) (fun i => xs.length - (intOf i).toNat)
  case atStart => exact ⟨0, Nat.zero_le _, rfl, fun t ht => absurd ht (by omega)⟩
  case round =>
    obtain ⟨j, hj, rfl, hall⟩ := hrel
    have HA := hid hall
    clear hall
    by_cases hlt : j < xs.length
    · obtain ⟨b, o, x, rfl, hb, hx, hcell⟩ := h.at_ hlt
      have HX := hid hx
      clear hx h
      by_cases hw : wrdOk x = true
      · go_wp2_with (go_at_call 31; refine (implWrdOk _ _).mono ?_; rintro e w' ⟨rfl, rfl⟩)
        go_round
        case rel =>
          refine ⟨j + 1, by omega, by go_num, fun t ht x' hx' => ?_⟩
          rcases Nat.lt_or_ge t j with h1 | h1
          · exact HA.out t h1 x' hx'
          · obtain rfl : t = j := by omega
            rw [HX.out] at hx'
            injection hx' with hx'
            rw [← hx']
            exact hw
        case measure => simp [intOf]; omega
      · have hw' : wrdOk x = false := by simpa using hw
        clear hw
        have hf := hid (wordsB_not HX.out hw')
        go_wp2_with (go_at_call 31; refine (implWrdOk _ _).mono ?_; rintro e w' ⟨rfl, rfl⟩)
        go_ret
        exact ⟨ret_bool hf.out.symm, rfl⟩
    · have hf := hid (wordsB_of (xs := xs) fun i hi x hx => HA.out i (by omega) x hx)
      go_wp2
      go_ret
      exact ⟨ret_bool hf.out.symm, rfl⟩

theorem specL1Words (A : Option Addr) (k : Nat) (xs : List Int) (w : World) (h : RI 3 w A xs) (hn : xs.length < 4611686018427387904) :
    Calls Try.prog 30 #[.slice A xs.length k] w fun e w' => e = .returned (.bool (wordsB xs)) ∧ w = w' := by
  go_enter Try.func30, Try.ntmps30
  go_wp2
  go_loop [3] (fun i => ∃ j : Nat, j ≤ xs.length ∧ i = .int .i64 j ∧ ∀ t, t < j → ∀ x, xs[t]? = some x → wrdOk x = true) (fun i => xs.length - (intOf i).toNat)
  case atStart => exact ⟨0, Nat.zero_le _, rfl, fun t ht => absurd ht (by omega)⟩
  case round =>
    obtain ⟨j, hj, rfl, hall⟩ := hrel
    have HA := hid hall
    clear hall
    by_cases hlt : j < xs.length
    · obtain ⟨b, o, x, rfl, hb, hx, hcell⟩ := h.at_ hlt
      have HX := hid hx
      clear hx h
      by_cases hw : wrdOk x = true
      · go_wp2_with (go_at_call 43; refine (specWrdOk _ _).mono ?_; rintro e w' ⟨rfl, rfl⟩)
        go_round
        case rel =>
          refine ⟨j + 1, by omega, by go_num, fun t ht x' hx' => ?_⟩
          rcases Nat.lt_or_ge t j with h1 | h1
          · exact HA.out t h1 x' hx'
          · obtain rfl : t = j := by omega
            rw [HX.out] at hx'
            injection hx' with hx'
            rw [← hx']
            exact hw
        case measure => simp [intOf]; omega
      · have hw' : wrdOk x = false := by simpa using hw
        clear hw
        have hf := hid (wordsB_not HX.out hw')
        go_wp2_with (go_at_call 43; refine (specWrdOk _ _).mono ?_; rintro e w' ⟨rfl, rfl⟩)
        go_ret
        exact ⟨ret_bool hf.out.symm, rfl⟩
    · have hf := hid (wordsB_of (xs := xs) fun i hi x hx => HA.out i (by omega) x hx)
      go_wp2
      go_ret
      exact ⟨ret_bool hf.out.symm, rfl⟩

end Go.Proofs.Ytcjeeggffeoilaa
