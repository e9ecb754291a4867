/- Contracts of the functions on words: each returns what a plain function says. Conditions: none. -/
import Derived.Test.YtcgelcaepkakaaaProg
import Derived.Test.YtcgelcaepkakaaaL
import Derived.Outline
namespace Go.Proofs.Ytcgelcaepkakaaa
open Go Go.RowKit

def inB (n lo hi : Int) : Bool := decide (lo ≤ n) && decide (n ≤ hi)
def wrdOk (n : Int) : Bool := decide (0 ≤ n) && decide (n < 65536)
def wrap (n : Int) : Int := n % 65536

theorem wrap_bits (n : Int) : bits BinOp.and IntKind.i64 n 65535 = wrap n := by
  show IntKind.i64.wrap ((BitVec.ofInt 64 n &&& BitVec.ofInt 64 65535).toNat : Int) = _
  have h : (BitVec.ofInt 64 n &&& BitVec.ofInt 64 65535).toNat = (n % 18446744073709551616).toNat % 65536 := by
    rw [BitVec.toNat_and]
    have e : (BitVec.ofInt 64 65535).toNat = 2 ^ 16 - 1 := by decide
    rw [e, Nat.and_two_pow_sub_one_eq_mod, BitVec.toNat_ofInt]
    rfl
  rw [h, IntKind.wrap_i64, wrap]
  omega

theorem wrap_tmod_neg {n : Int} (h : n.tmod 65536 < 0) : n.tmod 65536 + 65536 = wrap n := by
  unfold wrap
  rw [Int.tmod_eq_emod] at h ⊢
  split at h <;> rename_i hc
  · omega
  · rw [if_neg hc]; omega
theorem wrap_tmod_pos {n : Int} (h : 0 ≤ n.tmod 65536) : n.tmod 65536 = wrap n := by
  unfold wrap
  rw [Int.tmod_eq_emod] at h ⊢
  split at h <;> rename_i hc
  · rw [if_pos hc]; omega
  · rw [if_neg hc]; omega
theorem tmod_bounds (n : Int) : -65536 < n.tmod 65536 ∧ n.tmod 65536 < 65536 := by
  rw [Int.tmod_eq_emod]
  split <;> omega
theorem wrap_wrap64 (n : Int) : wrap (wrap64 n) = wrap n := by unfold wrap wrap64; omega
theorem wrap_bounds (n : Int) : 0 ≤ wrap n ∧ wrap n < 65536 := by unfold wrap; omega

theorem implIn (n lo hi : Int) (w : World) :
    Calls Try.prog 69 #[.int .i64 n, .int .i64 lo, .int .i64 hi] w fun e w' => e = .returned (.bool (inB n lo hi)) ∧ w = w' := by
  go_enter Try.func69, Try.ntmps69
  go_wp2
  all_goals
    go_ret
    exact ⟨ret_bool (by simp only [inB]; simp; try omega), rfl⟩

theorem implWrdOk (n : Int) (w : World) :
    Calls Try.prog 68 #[.int .i64 n] w fun e w' => e = .returned (.bool (wrdOk n)) ∧ w = w' := by
  go_enter Try.func68, Try.ntmps68
  go_wp2_with (go_at_call 69; refine (implIn _ _ _ _).mono ?_; rintro e w' ⟨rfl, rfl⟩)
  go_ret
  exact ⟨ret_bool (by simp only [inB, wrdOk]; congr 1; simp; omega), rfl⟩

theorem implIsOp (n : Int) (w : World) :
    Calls Try.prog 114 #[.int .i64 n] w fun e w' => e = .returned (.bool (inB n 1 5)) ∧ w = w' := by
  go_enter Try.func114, Try.ntmps114
  go_wp2_with (go_at_call 69; refine (implIn _ _ _ _).mono ?_; rintro e w' ⟨rfl, rfl⟩)
  go_ret
  exact ⟨rfl, rfl⟩

theorem implIsReg (n : Int) (w : World) :
    Calls Try.prog 115 #[.int .i64 n] w fun e w' => e = .returned (.bool (inB n 0 3)) ∧ w = w' := by
  go_enter Try.func115, Try.ntmps115
  go_wp2_with (go_at_call 69; refine (implIn _ _ _ _).mono ?_; rintro e w' ⟨rfl, rfl⟩)
  go_ret
  exact ⟨rfl, rfl⟩

theorem specL1In (n lo hi : Int) (w : World) :
    Calls Try.prog 82 #[.int .i64 n, .int .i64 lo, .int .i64 hi] w fun e w' => e = .returned (.bool (inB n lo hi)) ∧ w = w' := by
  go_enter Try.func82, Try.ntmps82
  go_wp2
  all_goals
    go_ret
    exact ⟨ret_bool (by simp only [inB]; simp; try omega), rfl⟩

theorem specWrdOk (n : Int) (w : World) :
    Calls Try.prog 25 #[.int .i64 n] w fun e w' => e = .returned (.bool (wrdOk n)) ∧ w = w' := by
  go_enter Try.func25, Try.ntmps25
  go_wp2
  all_goals
    go_ret
    exact ⟨ret_bool (by simp only [wrdOk]; simp; try omega), rfl⟩

theorem implWrdWrap (n : Int) (w : World) :
    Calls Try.prog 59 #[.int .i64 n] w fun e w' => e = .returned (.int .i64 (wrap n)) ∧ w = w' := by
  go_enter Try.func59, Try.ntmps59
  go_wp2
  go_ret
  exact ⟨ret_int (wrap_bits n), rfl⟩

theorem specWrdWrap (n : Int) (w : World) :
    Calls Try.prog 61 #[.int .i64 n] w fun e w' => e = .returned (.int .i64 (wrap n)) ∧ w = w' := by
  have hb := tmod_bounds n
  by_cases h : n.tmod 65536 < 0
  · go_enter Try.func61, Try.ntmps61
    go_wp2
    go_ret
    exact ⟨ret_int (wrap_tmod_neg h), rfl⟩
  · have h' : 0 ≤ n.tmod 65536 := by omega
    clear h
    go_enter Try.func61, Try.ntmps61
    go_wp2
    go_ret
    exact ⟨ret_int (wrap_tmod_pos h'), rfl⟩

def wrdRel (r a b : Int) : Bool := wrdOk a && wrdOk b && ((r == 1 && a == b) || (r == 2 && decide (a < b)))





def insEnds (n : Int) : Bool := inB n 11 13





/-- The result of an operation. -/
def wrdDo (op a b : Int) : Int :=
  if wrdOk a && wrdOk b then
    if op = 1 then wrap (a + b) else if op = 2 then wrap (a - b) else if op = 3 then wrap (a * b) else if op = 4 then bits .and .i64 a b else if op = 5 then bits .xor .i64 a b else 0
  else 0

theorem implWrdDo (op a b : Int) (w : World) :
    Calls Try.prog 94 #[.int .i64 op, .int .i64 a, .int .i64 b] w fun e w' => e = .returned (.int .i64 (wrdDo op a b)) ∧ w = w' := by
  go_enter Try.func94, Try.ntmps94
  go_wp2_with (first | (go_at_call 68; refine (implWrdOk _ _).mono ?_; rintro e w' ⟨rfl, rfl⟩) | (go_at_call 59; refine (implWrdWrap _ _).mono ?_; rintro e w' ⟨rfl, rfl⟩))
  all_goals
    go_ret
    exact ⟨ret_int (by simp_all [wrdDo, wrap_wrap64]), rfl⟩

theorem specWrdDo (op a b : Int) (w : World) :
    Calls Try.prog 21 #[.int .i64 op, .int .i64 a, .int .i64 b] w fun e w' => e = .returned (.int .i64 (wrdDo op a b)) ∧ w = w' := by
  go_enter Try.func21, Try.ntmps21
  go_wp2_with (first | (go_at_call 25; refine (specWrdOk _ _).mono ?_; rintro e w' ⟨rfl, rfl⟩) | (go_at_call 61; refine (specWrdWrap _ _).mono ?_; rintro e w' ⟨rfl, rfl⟩))
  all_goals
    go_ret
    exact ⟨ret_int (by simp_all [wrdDo, wrap_wrap64]), rfl⟩

def wordsB (xs : List Int) : Bool := xs.all wrdOk

theorem wordsB_of {xs : List Int} (h : ∀ i, i < xs.length → ∀ x, xs[i]? = some x → wrdOk x = true) : wordsB xs = true := by
  unfold wordsB
  rw [List.all_eq_true]
  intro x hx
  obtain ⟨i, hi, rfl⟩ := List.getElem_of_mem hx
  exact h i hi _ (List.getElem?_eq_getElem hi)
theorem wordsB_not {xs : List Int} {i : Nat} {x : Int} (hx : xs[i]? = some x) (h : wrdOk x = false) : wordsB xs = false := by
  unfold wordsB
  rw [List.all_eq_false]
  exact ⟨x, List.mem_of_getElem? hx, by simp [h]⟩

theorem implWordsOk (A : Option Addr) (k : Nat) (xs : List Int) (w : World) (h : RI 3 w A xs) (hn : xs.length < 4611686018427387904) :
    Calls Try.prog 74 #[.slice A xs.length k] w fun e w' => e = .returned (.bool (wordsB xs)) ∧ w = w' := by
  go_enter Try.func74, Try.ntmps74
  go_wp2
  go_loop [7] (fun i => ∃ j : Nat, j ≤ xs.length ∧ i = .int .i64 j ∧ ∀ t, t < j → ∀ x, xs[t]? = some x → wrdOk x = true) (fun i => xs.length - (intOf i).toNat)
  case atStart => exact ⟨0, Nat.zero_le _, rfl, fun t ht => absurd ht (by omega)⟩
  case round =>
    obtain ⟨j, hj, rfl, hall⟩ := hrel
    have HA := hid hall
    clear hall
    by_cases hlt : j < xs.length
    · obtain ⟨b, o, x, rfl, hb, hx, hcell⟩ := h.at_ hlt
      have HX := hid hx
      clear hx h
      by_cases hw : wrdOk x = true
      · go_wp2_with (go_at_call 68; refine (implWrdOk _ _).mono ?_; rintro e w' ⟨rfl, rfl⟩)
        go_round
        case rel =>
          refine ⟨j + 1, by omega, by go_num, fun t ht x' hx' => ?_⟩
          rcases Nat.lt_or_ge t j with h1 | h1
          · exact HA.out t h1 x' hx'
          · obtain rfl : t = j := by omega
            rw [HX.out] at hx'
            injection hx' with hx'
            rw [← hx']
            exact hw
        case measure => simp [intOf]; omega
      · have hw' : wrdOk x = false := by simpa using hw
        clear hw
        have hf := hid (wordsB_not HX.out hw')
        go_wp2_with (go_at_call 68; refine (implWrdOk _ _).mono ?_; rintro e w' ⟨rfl, rfl⟩)
        go_ret
        exact ⟨ret_bool hf.out.symm, rfl⟩
    · have hf := hid (wordsB_of (xs := xs) fun i hi x hx => HA.out i (by omega) x hx)
      go_wp2
      go_ret
      exact ⟨ret_bool hf.out.symm, rfl⟩

theorem specL1Words (A : Option Addr) (k : Nat) (xs : List Int) (w : World) (h : RI 3 w A xs) (hn : xs.length < 4611686018427387904) :
    Calls Try.prog 90 #[.slice A xs.length k] w fun e w' => e = .returned (.bool (wordsB xs)) ∧ w = w' := by
  go_enter Try.func90, Try.ntmps90
  go_wp2
  go_loop [3] (fun i => ∃ j : Nat, j ≤ xs.length ∧ i = .int .i64 j ∧ ∀ t, t < j → ∀ x, xs[t]? = some x → wrdOk x = true) (fun i => xs.length - (intOf i).toNat)
  case atStart => exact ⟨0, Nat.zero_le _, rfl, fun t ht => absurd ht (by omega)⟩
  case round =>
    obtain ⟨j, hj, rfl, hall⟩ := hrel
    have HA := hid hall
    clear hall
    by_cases hlt : j < xs.length
    · obtain ⟨b, o, x, rfl, hb, hx, hcell⟩ := h.at_ hlt
      have HX := hid hx
      clear hx h
      by_cases hw : wrdOk x = true
      · go_wp2_with (go_at_call 25; refine (specWrdOk _ _).mono ?_; rintro e w' ⟨rfl, rfl⟩)
        go_round
        case rel =>
          refine ⟨j + 1, by omega, by go_num, fun t ht x' hx' => ?_⟩
          rcases Nat.lt_or_ge t j with h1 | h1
          · exact HA.out t h1 x' hx'
          · obtain rfl : t = j := by omega
            rw [HX.out] at hx'
            injection hx' with hx'
            rw [← hx']
            exact hw
        case measure => simp [intOf]; omega
      · have hw' : wrdOk x = false := by simpa using hw
        clear hw
        have hf := hid (wordsB_not HX.out hw')
        go_wp2_with (go_at_call 25; refine (specWrdOk _ _).mono ?_; rintro e w' ⟨rfl, rfl⟩)
        go_ret
        exact ⟨ret_bool hf.out.symm, rfl⟩
    · have hf := hid (wordsB_of (xs := xs) fun i hi x hx => HA.out i (by omega) x hx)
      go_wp2
      go_ret
      exact ⟨ret_bool hf.out.symm, rfl⟩

end Go.Proofs.Ytcgelcaepkakaaa
