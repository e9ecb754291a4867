/- Words as plain decimal text and back: what the reference reads and writes, in plain Lean. Conditions: none. -/
import Derived.Lib.AtoiAll
import Derived.Lib.Atoi
import Derived.Lib.ItoaNum
import Derived.Test.YtldohgjembbcmaaDoorW
namespace Go.Proofs.YtldohgjembbcmaaDoor
open Go Go.RowKit Go.Lib
set_option linter.unusedVariables false
set_option linter.unusedSimpArgs false

theorem digit_nat {d : Nat} (h : d < 10) : (UInt8.ofNat (48 + d)).toNat = 48 + d := by simp; omega
theorem parse_snoc : ∀ (l : List UInt8) (acc u d : Nat), parseUint10 acc l = .ok u → u < 100000 → d < 10 → parseUint10 acc (l ++ [UInt8.ofNat (48 + d)]) = .ok (u * 10 + d)
  | [], acc, u, d, h, hu, hd => by
    simp only [parseUint10] at h
    injection h with h
    subst h
    simp only [List.nil_append, parseUint10, digit_nat hd]
    rw [if_pos (by omega), if_neg (by omega), if_neg (by omega)]
    congr 1
    omega
  | c :: r, acc, u, d, h, hu, hd => by
    simp only [List.cons_append, parseUint10] at h ⊢
    by_cases h1 : 48 ≤ c.toNat ∧ c.toNat ≤ 57
    · rw [if_pos h1] at h ⊢
      by_cases h2 : 1844674407370955162 ≤ acc
      · rw [if_pos h2] at h; cases h
      · rw [if_neg h2] at h ⊢
        by_cases h3 : 18446744073709551616 ≤ acc * 10 + (c.toNat - 48)
        · rw [if_pos h3] at h; cases h
        · rw [if_neg h3] at h ⊢
          exact parse_snoc r _ u d h hu hd
    · rw [if_neg h1] at h; cases h
theorem dec_big {n : Nat} (h : ¬ n < 10) : decDigits n = decDigits (n / 10) ++ [UInt8.ofNat (48 + n % 10)] := by rw [decDigits, dif_neg h]
theorem parse_dec (n : Nat) (h : n < 100000) : parseUint10 0 (decDigits n) = .ok n := by
  induction n using Nat.strongRecOn with
  | _ n ih =>
    by_cases hs : n < 10
    · have := parse_snoc [] 0 0 n rfl (by omega) hs
      rw [decDigits_one hs]
      simpa using this
    · rw [dec_big hs, parse_snoc _ _ _ _ (ih (n / 10) (by omega) (by omega)) (by omega) (by omega)]
      congr 1
      omega
theorem dec_head (n : Nat) : ∃ c r, decDigits n = c :: r ∧ 48 ≤ c.toNat ∧ c.toNat ≤ 57 := by
  induction n using Nat.strongRecOn with
  | _ n ih =>
    by_cases hs : n < 10
    · exact ⟨_, [], decDigits_one hs, by rw [digit_nat hs]; omega, by rw [digit_nat hs]; omega⟩
    · obtain ⟨c, r, e, h1, h2⟩ := ih (n / 10) (by omega)
      exact ⟨c, _, by rw [dec_big hs, e]; rfl, h1, h2⟩
theorem atoi_dec {n : Nat} (h : n < 100000) : atoiAll (decDigits n) = .ok (n : Int) := by
  have hp := parse_dec n h
  obtain ⟨c, r, e, h1, h2⟩ := dec_head n
  rw [e] at hp ⊢
  unfold atoiAll
  simp only
  rw [if_neg (by omega)]
  unfold parseMag
  rw [if_neg (by simp), hp]
  simp only
  rw [if_neg (by omega), if_neg (by omega), if_neg (by omega)]
theorem from_snoc : ∀ (l : List UInt8) (acc u d : Nat), decFrom acc l = some u → d < 10 → decFrom acc (l ++ [UInt8.ofNat (48 + d)]) = some (u * 10 + d)
  | [], acc, u, d, h, hd => by
    simp only [decFrom] at h
    injection h with h
    subst h
    have : digitVal (UInt8.ofNat (48 + d)) = some d := by unfold digitVal; rw [digit_nat hd, if_pos (by omega)]; congr 1; omega
    simp only [List.nil_append, decFrom, this]
  | c :: r, acc, u, d, h, hd => by
    simp only [List.cons_append, decFrom] at h ⊢
    cases hc : digitVal c with
    | none => rw [hc] at h; cases h
    | some x => rw [hc] at h; simp only at h ⊢; exact from_snoc r _ u d h hd
theorem from_dec (n : Nat) : decFrom 0 (decDigits n) = some n := by
  induction n using Nat.strongRecOn with
  | _ n ih =>
    by_cases hs : n < 10
    · have := from_snoc [] 0 0 n rfl hs
      rw [decDigits_one hs]
      simpa using this
    · rw [dec_big hs, from_snoc _ _ _ _ (ih (n / 10) (by omega)) (by omega)]
      congr 1
      omega
theorem dec_length {n : Nat} (h : n < 100000) : 1 ≤ (decDigits n).length ∧ (decDigits n).length ≤ 5 := by
  have h1 := decDigits_length n
  have e : ∀ (k m : Nat), nDigits m = if m < 10 then 1 else nDigits (m / 10) + 1 := fun k m => by
    by_cases hm : m < 10
    · rw [nDigits_small hm, if_pos hm]
    · rw [nDigits_big hm, if_neg hm]
  have h0 := nDigits_pos n
  have : nDigits n ≤ 5 := by
    rw [e 0 n]
    split
    · omega
    · rw [e 0 (n / 10)]
      split
      · omega
      · rw [e 0 (n / 10 / 10)]
        split
        · omega
        · rw [e 0 (n / 10 / 10 / 10)]
          split
          · omega
          · rw [e 0 (n / 10 / 10 / 10 / 10), if_pos (by omega)]
            omega
  omega

/-- A word as plain text; nothing for what is no word. -/
def wrdText (n : Int) : List UInt8 := if wrdOk n then decDigits n.toNat else []
/-- The word that a text is the plain numeral of. -/
def wrdRead (l : List UInt8) : Int × Bool := if l.length = 0 ∨ 5 < l.length then (0, false) else match decFrom 0 l with
  | some n => if wrdText n = l then ((n : Int), true) else (0, false)
  | none => (0, false)
theorem wrdOk_nat {n : Int} (h : wrdOk n = true) : 0 ≤ n ∧ n ≤ 65535 := by
  unfold wrdOk at h
  simp at h
  omega
theorem wrdOk_of {n : Int} (h0 : 0 ≤ n) (h : n ≤ 65535) : wrdOk n = true := by
  unfold wrdOk
  simp
  omega
theorem wrdText_of {n : Nat} (h : n ≤ 65535) : wrdText n = decDigits n := by unfold wrdText; rw [if_pos (wrdOk_of (by omega) (by omega))]; rfl
theorem wrdRead_dec {n : Nat} (h : n ≤ 65535) : wrdRead (decDigits n) = ((n : Int), true) := by
  have := dec_length (n := n) (by omega)
  unfold wrdRead
  rw [if_neg (by omega), from_dec]
  simp only
  rw [if_pos (wrdText_of h)]
theorem wrdRead_not {l : List UInt8} (h : ∀ n : Nat, n ≤ 65535 → l ≠ decDigits n) : wrdRead l = (0, false) := by
  unfold wrdRead
  split
  · rfl
  · next hl =>
    cases hd : decFrom 0 l with
    | none => rfl
    | some n =>
      simp only
      rw [if_neg]
      intro e
      unfold wrdText at e
      split at e
      · next hw =>
        have := wrdOk_nat hw
        exact h n (by omega) (by rw [← e]; rfl)
      · rw [← e] at hl
        simp at hl
/-- What the program's own reading comes to. -/
theorem wrdRead_atoi {l : List UInt8} : wrdRead l = match atoiAll l with
    | .ok v => if wrdText v = l then (v, true) else (0, false)
    | _ => (0, false) := by
  by_cases h : ∃ n : Nat, n ≤ 65535 ∧ l = decDigits n
  · obtain ⟨n, hn, rfl⟩ := h
    rw [wrdRead_dec hn, atoi_dec (by omega)]
    simp only
    rw [if_pos (wrdText_of hn)]
  · rw [wrdRead_not fun n hn e => h ⟨n, hn, e⟩]
    cases ha : atoiAll l
    case ok v =>
      simp only
      rw [if_neg]
      intro e
      unfold wrdText at e
      split at e
      · next hw =>
        have := wrdOk_nat hw
        exact h ⟨v.toNat, by omega, e.symm⟩
      · rw [← e] at ha
        cases ha
    all_goals rfl
theorem wrdText_inv {n : Int} (h : wrdOk n = true) : wrdRead (wrdText n) = (n, true) := by
  have := wrdOk_nat h
  obtain ⟨m, rfl⟩ : ∃ m : Nat, n = m := ⟨n.toNat, by omega⟩
  rw [wrdText_of (by omega), wrdRead_dec (by omega)]
theorem wrdRead_text {l : List UInt8} (h : (wrdRead l).2 = true) : wrdText (wrdRead l).1 = l := by
  unfold wrdRead at h ⊢
  split at h
  · cases h
  · next hl =>
    rw [if_neg hl]
    cases hd : decFrom 0 l with
    | none => rw [hd] at h; cases h
    | some n =>
      rw [hd] at h
      simp only at h ⊢
      split at h
      · next e => rw [if_pos e]; exact e
      · cases h
end Go.Proofs.YtldohgjembbcmaaDoor
