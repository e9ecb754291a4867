/- Plain laws of words: bits, sums and products. Conditions: none. -/
import Derived.Test.YtkdggfkigjpbfaaW
namespace Go.Proofs.Ytkdggfkigjpbfaa
open Go

theorem mod_bits (a b : Nat) : (a ^^^ b) % 2 = (a % 2 + b % 2) % 2 ∧ (a &&& b) % 2 = (a % 2) * (b % 2) ∧ (a ||| b) % 2 = a % 2 + b % 2 - (a % 2) * (b % 2) := by
  have h1 := @Nat.xor_mod_two_eq_one a b
  have h2 := @Nat.and_mod_two_eq_one a b
  have h3 := @Nat.or_mod_two_eq_one a b
  have b1 := Nat.mod_two_eq_zero_or_one (a ^^^ b)
  have b2 := Nat.mod_two_eq_zero_or_one (a &&& b)
  have b3 := Nat.mod_two_eq_zero_or_one (a ||| b)
  rcases Nat.mod_two_eq_zero_or_one a with ha | ha <;> rcases Nat.mod_two_eq_zero_or_one b with hb | hb <;> rw [ha, hb] at h1 h2 h3 ⊢ <;> refine ⟨?_, ?_, ?_⟩ <;> omega
theorem xor_and_add : ∀ (n a b : Nat), a ≤ n → (a ^^^ b) + 2 * (a &&& b) = a + b
  | 0, a, b, h => by
    obtain rfl : a = 0 := by omega
    simp
  | n + 1, a, b, h => by
    by_cases h0 : a = 0
    · subst h0; simp
    · have ih := xor_and_add n (a / 2) (b / 2) (by omega)
      have e1 : (a ^^^ b) / 2 = a / 2 ^^^ b / 2 := Nat.xor_div_two
      have e2 : (a &&& b) / 2 = a / 2 &&& b / 2 := Nat.and_div_two
      rw [← e1, ← e2] at ih
      obtain ⟨h1, h2, _⟩ := mod_bits a b
      rcases Nat.mod_two_eq_zero_or_one a with ha | ha <;> rcases Nat.mod_two_eq_zero_or_one b with hb | hb <;> rw [ha, hb] at h1 h2 <;> omega

/-! ### words -/
theorem wrap_add_left (a b : Int) : wrap (wrap a + b) = wrap (a + b) := by unfold wrap; omega
theorem wrap_add_right (a b : Int) : wrap (a + wrap b) = wrap (a + b) := by unfold wrap; omega
theorem wrap_mul_left (a b : Int) : wrap (wrap a * b) = wrap (a * b) := by
  have h : a = wrap a + 65536 * (a / 65536) := by unfold wrap; omega
  have e : a * b = wrap a * b + 65536 * (a / 65536 * b) := by
    conv => lhs; rw [h]
    rw [Int.add_mul, Int.mul_assoc]
  rw [e]
  generalize wrap a * b = x
  generalize a / 65536 * b = y
  unfold wrap
  omega
theorem wrap_mul_right (a b : Int) : wrap (a * wrap b) = wrap (a * b) := by rw [Int.mul_comm, wrap_mul_left, Int.mul_comm]
theorem wrap_idem (a : Int) : wrap (wrap a) = wrap a := by unfold wrap; omega
theorem wrap_small {a : Int} (h0 : 0 ≤ a) (h1 : a < 65536) : wrap a = a := by unfold wrap; omega
theorem wrap_add_congr {a b c d : Int} (h : wrap a = wrap b) (k : wrap c = wrap d) : wrap (a + c) = wrap (b + d) := by unfold wrap at *; omega
theorem wrap_mul_congr {a b c d : Int} (h : wrap a = wrap b) (k : wrap c = wrap d) : wrap (a * c) = wrap (b * d) := by
  rw [← wrap_mul_left, h, wrap_mul_left, ← wrap_mul_right, k, wrap_mul_right]

/-! ### bits of words -/
theorem or_eq : ∀ (n a b : Nat), a ≤ n → (a ^^^ b) + (a &&& b) = a ||| b
  | 0, a, b, h => by
    obtain rfl : a = 0 := by omega
    simp
  | n + 1, a, b, h => by
    by_cases h0 : a = 0
    · subst h0; simp
    · have ih := or_eq n (a / 2) (b / 2) (by omega)
      have e1 : (a ^^^ b) / 2 = a / 2 ^^^ b / 2 := Nat.xor_div_two
      have e2 : (a &&& b) / 2 = a / 2 &&& b / 2 := Nat.and_div_two
      have e5 : (a ||| b) / 2 = a / 2 ||| b / 2 := Nat.or_div_two
      rw [← e1, ← e2, ← e5] at ih
      obtain ⟨h1, h2, h3⟩ := mod_bits a b
      rcases Nat.mod_two_eq_zero_or_one a with ha | ha <;> rcases Nat.mod_two_eq_zero_or_one b with hb | hb <;> rw [ha, hb] at h1 h2 h3 <;> omega
theorem xor_word {a b : Nat} (ha : a < 65536) (hb : b < 65536) : bits .xor .i64 (a : Int) (b : Int) = ((a ^^^ b : Nat) : Int) := by
  have hx : a ^^^ b < 2 ^ 16 := Nat.xor_lt_two_pow ha hb
  show IntKind.i64.wrap ((BitVec.ofInt 64 a ^^^ BitVec.ofInt 64 b).toNat : Int) = _
  rw [BitVec.toNat_xor, BitVec.toNat_ofInt, BitVec.toNat_ofInt, IntKind.wrap_i64]
  have h1 : ((a : Int) % ((2 ^ 64 : Nat) : Int)).toNat = a := by omega
  have h2 : ((b : Int) % ((2 ^ 64 : Nat) : Int)).toNat = b := by omega
  rw [h1, h2]
  omega
theorem and_word {a b : Nat} (ha : a < 65536) (hb : b < 65536) : bits .and .i64 (a : Int) (b : Int) = ((a &&& b : Nat) : Int) := by
  have hx : a &&& b ≤ a := Nat.and_le_left
  show IntKind.i64.wrap ((BitVec.ofInt 64 a &&& BitVec.ofInt 64 b).toNat : Int) = _
  rw [BitVec.toNat_and, BitVec.toNat_ofInt, BitVec.toNat_ofInt, IntKind.wrap_i64]
  have h1 : ((a : Int) % ((2 ^ 64 : Nat) : Int)).toNat = a := by omega
  have h2 : ((b : Int) % ((2 ^ 64 : Nat) : Int)).toNat = b := by omega
  rw [h1, h2]
  omega
theorem word_nat {v : Int} (h : wrdOk v = true) : ∃ n : Nat, v = n ∧ n < 65536 := by
  unfold wrdOk at h
  simp at h
  exact ⟨v.toNat, by omega, by omega⟩
theorem nat_word {n : Nat} (h : n < 65536) : wrdOk (n : Int) = true := by
  unfold wrdOk
  simp
  omega
theorem wrdOk_wrap (v : Int) : wrdOk (wrap v) = true := by unfold wrdOk wrap; simp; omega
theorem wrap_word {v : Int} (h : wrdOk v = true) : wrap v = v := by unfold wrdOk at h; simp at h; unfold wrap; omega
theorem wrdDo_no {a b : Int} (op : Int) (h : (wrdOk a && wrdOk b) = false) : wrdDo op a b = 0 := by unfold wrdDo; rw [if_neg (by simp [h])]
section
variable {a b : Int} (ha : wrdOk a = true) (hb : wrdOk b = true)
include ha hb
theorem do_add : wrdDo 1 a b = wrap (a + b) := by unfold wrdDo; rw [ha, hb]; rfl
theorem do_sub : wrdDo 2 a b = wrap (a - b) := by unfold wrdDo; rw [ha, hb]; rfl
theorem do_mul : wrdDo 3 a b = wrap (a * b) := by unfold wrdDo; rw [ha, hb]; rfl
theorem do_and : wrdDo 4 a b = bits .and .i64 a b := by unfold wrdDo; rw [ha, hb]; rfl
theorem do_xor : wrdDo 5 a b = bits .xor .i64 a b := by unfold wrdDo; rw [ha, hb]; rfl
end
theorem wrdOk_do (op a b : Int) : wrdOk (wrdDo op a b) = true := by
  cases h : wrdOk a && wrdOk b
  · rw [wrdDo_no op h]; decide
  · rw [Bool.and_eq_true] at h
    obtain ⟨x, rfl, hx⟩ := word_nat h.1
    obtain ⟨y, rfl, hy⟩ := word_nat h.2
    unfold wrdDo
    rw [h.1, h.2]
    simp only [Bool.and_self, if_true]
    split
    · exact wrdOk_wrap _
    · split
      · exact wrdOk_wrap _
      · split
        · exact wrdOk_wrap _
        · split
          · rw [and_word hx hy]; exact nat_word (Nat.lt_of_le_of_lt Nat.and_le_left hx)
          · split
            · rw [xor_word hx hy]; exact nat_word (Nat.xor_lt_two_pow (n := 16) hx hy)
            · decide
theorem wrdDo_comm {op a b : Int} (ho : op ≠ 2) : wrdDo op a b = wrdDo op b a := by
  cases h : wrdOk a && wrdOk b
  · rw [wrdDo_no op h, wrdDo_no op (by rw [Bool.and_comm]; exact h)]
  · rw [Bool.and_eq_true] at h
    obtain ⟨x, rfl, hx⟩ := word_nat h.1
    obtain ⟨y, rfl, hy⟩ := word_nat h.2
    unfold wrdDo
    rw [h.1, h.2, and_word hx hy, xor_word hx hy, and_word hy hx, xor_word hy hx, Nat.and_comm, Nat.xor_comm, Int.add_comm, Int.mul_comm, if_neg ho, if_neg ho]
/-- What FnWrdBits asks of two words. -/
theorem bits_law {a b : Int} (ha : wrdOk a = true) (hb : wrdOk b = true) :
    wrdDo 4 a b ≤ a ∧ wrdDo 4 a b ≤ b ∧ wrdDo 5 a b ≤ a + b ∧ wrdDo 5 a b + wrdDo 4 a b ≤ 65535 ∧ 0 ≤ wrdDo 4 a b ∧ 0 ≤ wrdDo 5 a b := by
  rw [do_and ha hb, do_xor ha hb]
  obtain ⟨x, rfl, hx⟩ := word_nat ha
  obtain ⟨y, rfl, hy⟩ := word_nat hb
  rw [and_word hx hy, xor_word hx hy]
  have h1 : x &&& y ≤ x := Nat.and_le_left
  have h2 : x &&& y ≤ y := Nat.and_le_right
  have h3 := xor_and_add x x y (Nat.le_refl _)
  have h4 := or_eq x x y (Nat.le_refl _)
  have h5 : x ||| y < 2 ^ 16 := Nat.or_lt_two_pow hx hy
  omega
/-- What FnWrdDo asks of two words, and a third. -/
theorem do_law {a b c : Int} (ha : wrdOk a = true) (hb : wrdOk b = true) (hc : wrdOk c = true) :
    wrdDo 2 (wrdDo 1 a b) b = a ∧ wrdDo 5 (wrdDo 5 a b) b = a ∧ wrdDo 1 (wrdDo 5 a b) (wrdDo 1 (wrdDo 4 a b) (wrdDo 4 a b)) = wrdDo 1 a b ∧
    wrdDo 3 (wrdDo 1 a b) c = wrdDo 1 (wrdDo 3 a c) (wrdDo 3 b c) := by
  refine ⟨?_, ?_, ?_, ?_⟩
  · rw [do_sub (wrdOk_do _ _ _) hb, do_add ha hb]
    obtain ⟨x, rfl, hx⟩ := word_nat ha
    unfold wrap
    omega
  · rw [do_xor (wrdOk_do _ _ _) hb, do_xor ha hb]
    obtain ⟨x, rfl, hx⟩ := word_nat ha
    obtain ⟨y, rfl, hy⟩ := word_nat hb
    rw [xor_word hx hy, xor_word (Nat.xor_lt_two_pow (n := 16) hx hy) hy, Nat.xor_assoc, Nat.xor_self, Nat.xor_zero]
  · rw [do_add (wrdOk_do 5 _ _) (wrdOk_do 1 _ _), do_add (wrdOk_do 4 _ _) (wrdOk_do 4 _ _), do_add ha hb, do_and ha hb, do_xor ha hb]
    obtain ⟨x, rfl, hx⟩ := word_nat ha
    obtain ⟨y, rfl, hy⟩ := word_nat hb
    rw [and_word hx hy, xor_word hx hy]
    have h3 := xor_and_add x x y (Nat.le_refl _)
    unfold wrap
    omega
  · rw [do_mul (wrdOk_do 1 _ _) hc, do_add (wrdOk_do 3 _ _) (wrdOk_do 3 _ _), do_add ha hb, do_mul ha hc, do_mul hb hc, wrap_mul_left, wrap_add_left, wrap_add_right, Int.add_mul]
end Go.Proofs.Ytkdggfkigjpbfaa
