/- Contracts of what compares: numbers, lists of numbers. Conditions: lengths that a machine can hold. -/
import Derived.Test.YtkdggfkigjpbfaaW
namespace Go.Proofs.Ytkdggfkigjpbfaa
open Go Go.RowKit
set_option linter.unusedVariables false

def cmpI (a b : Int) : Int := if a < b then -1 else if b < a then 1 else 0
def lexO : List Int → List Int → Int
  | [], [] => 0
  | [], _ :: _ => -1
  | _ :: _, [] => 1
  | a :: p, b :: q => if a < b then -1 else if b < a then 1 else lexO p q
def aOrd (a b : List Int) : Int := if a.length < b.length then -1 else if b.length < a.length then 1 else lexO a b

def orI (a b : Int) : Int := if a = 0 then b else a

theorem isNaN (a : Int) (w : World) : Calls Try.prog 78 #[.int .i64 a] w fun e w' => e = .returned (.bool false) ∧ w = w' := by
  go_enter Try.func78, Try.ntmps78
  go_wp2
  go_ret
  exact ⟨ret_bool (by simp), rfl⟩

theorem cmpCompare (a b : Int) (w : World) : Calls Try.prog 70 #[.int .i64 a, .int .i64 b] w fun e w' => e = .returned (.int .i64 (cmpI a b)) ∧ w = w' := by
  by_cases h1 : a < b
  · go_enter Try.func70, Try.ntmps70
    go_wp2_with (go_at_call 78; refine (isNaN _ _).mono ?_; rintro e w' ⟨rfl, rfl⟩)
    go_ret
    exact ⟨ret_int (by simp [cmpI, h1]), rfl⟩
  · by_cases h2 : b < a
    · go_enter Try.func70, Try.ntmps70
      go_wp2_with (go_at_call 78; refine (isNaN _ _).mono ?_; rintro e w' ⟨rfl, rfl⟩)
      go_ret
      exact ⟨ret_int (by rw [cmpI, if_neg (by omega), if_pos h2]), rfl⟩
    · go_enter Try.func70, Try.ntmps70
      go_wp2_with (go_at_call 78; refine (isNaN _ _).mono ?_; rintro e w' ⟨rfl, rfl⟩)
      go_ret
      exact ⟨ret_int (by rw [cmpI, if_neg (by omega), if_neg (by omega)]), rfl⟩

theorem cmpLess (a b : Int) (w : World) : Calls Try.prog 68 #[.int .i64 a, .int .i64 b] w fun e w' => e = .returned (.bool (decide (a < b))) ∧ w = w' := by
  go_enter Try.func68, Try.ntmps68
  go_wp2_with (go_at_call 78; refine (isNaN _ _).mono ?_; rintro e w' ⟨rfl, rfl⟩)
  go_ret
  exact ⟨rfl, rfl⟩

theorem lex_step {xs ys : List Int} {j : Nat} {x y : Int} (hx : xs[j]? = some x) (hy : ys[j]? = some y) :
    lexO (xs.drop j) (ys.drop j) = if x < y then -1 else if y < x then 1 else lexO (xs.drop (j + 1)) (ys.drop (j + 1)) := by
  have h1 : xs.drop j = x :: xs.drop (j + 1) := by
    obtain ⟨hj, he⟩ := List.getElem?_eq_some_iff.1 hx
    rw [List.drop_eq_getElem_cons hj, he]
  have h2 : ys.drop j = y :: ys.drop (j + 1) := by
    obtain ⟨hj, he⟩ := List.getElem?_eq_some_iff.1 hy
    rw [List.drop_eq_getElem_cons hj, he]
  rw [h1, h2, lexO]
theorem lex_out {xs ys : List Int} {j : Nat} (hx : xs.length ≤ j) : lexO (xs.drop j) (ys.drop j) = if j < ys.length then -1 else 0 := by
  rw [List.drop_eq_nil_of_le hx]
  by_cases h : j < ys.length
  · rw [List.drop_eq_getElem_cons h, if_pos h, lexO]
  · rw [List.drop_eq_nil_of_le (by omega), if_neg h, lexO]
theorem lex_over {xs ys : List Int} {j : Nat} (hx : j < xs.length) (hy : ys.length ≤ j) : lexO (xs.drop j) (ys.drop j) = 1 := by
  rw [List.drop_eq_getElem_cons hx, List.drop_eq_nil_of_le hy, lexO]

theorem slicesCompare (A A' : Option Addr) (k k' : Nat) (xs ys : List Int) (w : World) (h : RI 3 w A xs) (h' : RI 3 w A' ys) (hn : xs.length < 4611686018427387904) (hn' : ys.length < 4611686018427387904) :
    Calls Try.prog 71 #[.slice A xs.length k, .slice A' ys.length k'] w fun e w' => e = .returned (.int .i64 (lexO xs ys)) ∧ w = w' := by
  go_enter Try.func71, Try.ntmps71
  go_wp2
  go_loop [11] (fun i => ∃ j : Nat, j ≤ xs.length ∧ j ≤ ys.length ∧ i = .int .i64 j ∧ lexO (xs.drop j) (ys.drop j) = lexO xs ys) (fun i => xs.length - (intOf i).toNat)
  case atStart => exact ⟨0, Nat.zero_le _, Nat.zero_le _, rfl, rfl⟩
  case round =>
    obtain ⟨j, hj, hj', rfl, heq⟩ := hrel
    have HA := hid heq
    clear heq
    by_cases hlt : j < xs.length
    · by_cases hlt' : j < ys.length
      · obtain ⟨b, o, x, rfl, hb, hx, hcell⟩ := h.at_ hlt
        obtain ⟨b', o', y, rfl, hb', hy, hcell'⟩ := h'.at_ hlt'
        have HS := hid (lex_step hx hy)
        clear hx h hy h'
        by_cases h1 : x < y
        · have e : cmpI x y = -1 := by simp [cmpI, h1]
          go_wp2_with (go_at_call 70; refine (cmpCompare _ _ _).mono ?_; rintro e w' ⟨rfl, rfl⟩)
          go_ret
          exact ⟨ret_int (by rw [← HA.out, HS.out, if_pos h1]), rfl⟩
        · by_cases h2 : y < x
          · have e : cmpI x y = 1 := by rw [cmpI, if_neg h1, if_pos h2]
            go_wp2_with (go_at_call 70; refine (cmpCompare _ _ _).mono ?_; rintro e w' ⟨rfl, rfl⟩)
            go_ret
            exact ⟨ret_int (by rw [← HA.out, HS.out, if_neg (by omega), if_pos h2]), rfl⟩
          · have e : cmpI x y = 0 := by rw [cmpI, if_neg h1, if_neg h2]
            go_wp2_with (go_at_call 70; refine (cmpCompare _ _ _).mono ?_; rintro e w' ⟨rfl, rfl⟩)
            go_round
            case rel => exact ⟨j + 1, by omega, by omega, by go_num, by rw [← HA.out, HS.out, if_neg (by omega), if_neg (by omega)]⟩
            case measure => simp [intOf]; omega
      · obtain ⟨b, o, x, rfl, hb, hx, hcell⟩ := h.at_ hlt
        clear hx h h'
        go_wp2
        go_ret
        exact ⟨ret_int (by rw [← HA.out, lex_over hlt (by omega)]), rfl⟩
    · by_cases h2 : xs.length < ys.length
      · go_wp2
        go_ret
        exact ⟨ret_int (by rw [← HA.out, lex_out (by omega), if_pos (by omega)]), rfl⟩
      · go_wp2
        go_ret
        exact ⟨ret_int (by rw [← HA.out, lex_out (by omega), if_neg (by omega)]), rfl⟩

theorem cmpOr (A : Option Addr) (k : Nat) (a b : Int) (w : World) (h : RI 3 w A [a, b]) :
    Calls Try.prog 69 #[.slice A 2 k] w fun e w' => e = .returned (.int .i64 (orI a b)) ∧ w = w' := by
  obtain ⟨g, o, x, rfl, hb, hx, hcell⟩ := h.at_ (i := 0) (by simp)
  obtain ⟨g', o', y, e, hb', hy, hcell'⟩ := h.at_ (i := 1) (by simp)
  injection e with e
  injection e with e1 e2 _
  subst e1 e2
  simp at hx hy
  subst hx hy
  clear h
  simp only [Nat.add_zero] at hcell
  by_cases h0 : a = 0
  · subst h0
    go_enter Try.func69, Try.ntmps69
    go_wp2
    go_loop [8] (fun i => ∃ j : Nat, j ≤ 2 ∧ i = .int .i64 j ∧ (j = 2 → b = 0)) (fun i => 2 - (intOf i).toNat)
    case atStart => exact ⟨0, by omega, rfl, by omega⟩
    case round =>
      obtain ⟨j, hj, rfl, hy⟩ := hrel
      have HY := hid hy
      clear hy
      rcases (show j = 0 ∨ j = 1 ∨ j = 2 by omega) with rfl | rfl | rfl
      · go_wp2
        go_round
        case rel => exact ⟨1, by omega, by go_num, by omega⟩
        case measure => simp [intOf]
      · by_cases h1 : b = 0
        · subst h1
          go_wp2
          go_round
          case rel => exact ⟨2, by omega, by go_num, by simp⟩
          case measure => simp [intOf]
        · have h1' : (b == 0) = false := by simpa using h1
          go_wp2
          go_ret
          exact ⟨rfl, rfl⟩
      · have e : b = 0 := HY.out rfl
        subst e
        go_wp2
        go_ret
        exact ⟨rfl, rfl⟩
  · have h0' : (a == 0) = false := by simpa using h0
    go_enter Try.func69, Try.ntmps69
    go_wp2
    refine wp_loop_rounds 1 ?_
    rw [rounds_succ]
    go_wp2
    go_ret
    exact ⟨ret_int (by rw [orI, if_neg h0]), rfl⟩

theorem aOrd_or (xs ys : List Int) : orI (cmpI xs.length ys.length) (lexO xs ys) = aOrd xs ys := by
  unfold aOrd cmpI orI
  by_cases h1 : xs.length < ys.length
  · simp [h1]
  · by_cases h2 : ys.length < xs.length
    · simp [h1, h2]
    · simp [h1, h2]

theorem atomsOrder (A A' : Option Addr) (k k' : Nat) (xs ys : List Int) (w : World) (h : RI 3 w A xs) (h' : RI 3 w A' ys) (hn : xs.length < 4611686018427387904) (hn' : ys.length < 4611686018427387904) :
    Calls Try.prog 59 #[.slice A xs.length k, .slice A' ys.length k'] w fun e w' => e = .returned (.int .i64 (aOrd xs ys)) ∧ Ext w w' := by
  go_enter Try.func59, Try.ntmps59
  go_wp2_with fail
  refine (cmpCompare _ _ _).mono ?_
  rintro e w' ⟨rfl, rfl⟩
  go_wp2_with fail
  refine (slicesCompare _ _ _ _ _ _ _ h h' hn hn').mono ?_
  rintro e w' ⟨rfl, rfl⟩
  go_wp2_with fail
  refine (cmpOr _ _ (cmpI xs.length ys.length) (lexO xs ys) _ ?_).mono ?_
  · exact Row.new _ _ _
  rintro e w' ⟨rfl, rfl⟩
  go_wp2
  go_ret
  exact ⟨ret_int (aOrd_or xs ys), (Ext.refl _).alloc _⟩

theorem specOrder (A A' : Option Addr) (k k' : Nat) (xs ys : List Int) (w : World) (h : RI 3 w A xs) (h' : RI 3 w A' ys) (hn : xs.length < 4611686018427387904) (hn' : ys.length < 4611686018427387904) :
    Calls Try.prog 56 #[.slice A xs.length k, .slice A' ys.length k'] w fun e w' => e = .returned (.int .i64 (aOrd xs ys)) ∧ Ext w w' := by
  by_cases h1 : xs.length < ys.length
  · have h0 : (((xs.length : Nat) : Int) != ((ys.length : Nat) : Int)) = true := by rw [bne_iff_ne]; omega
    go_enter Try.func56, Try.ntmps56
    go_wp2
    go_ret
    exact ⟨ret_int (by rw [aOrd, if_pos h1]), Ext.refl _⟩
  by_cases h2 : ys.length < xs.length
  · have h0 : (((xs.length : Nat) : Int) != ((ys.length : Nat) : Int)) = true := by rw [bne_iff_ne]; omega
    go_enter Try.func56, Try.ntmps56
    go_wp2
    go_ret
    exact ⟨ret_int (by rw [aOrd, if_neg h1, if_pos h2]), Ext.refl _⟩
  have hl : xs.length = ys.length := by omega
  have h0 : (((xs.length : Nat) : Int) != ((ys.length : Nat) : Int)) = false := by rw [hl]; simp
  have HO := hid (show aOrd xs ys = lexO xs ys by rw [aOrd, if_neg h1, if_neg h2])
  have HL := hid hl
  clear h1 h2 hl
  go_enter Try.func56, Try.ntmps56
  go_wp2
  go_loopw [5] (fun i wr => ∃ j : Nat, j ≤ xs.length ∧ i = .int .i64 j ∧ lexO (xs.drop j) (ys.drop j) = lexO xs ys ∧ Ext w wr) (fun i _ => xs.length - (intOf i).toNat)
  case atStart => exact ⟨0, Nat.zero_le _, rfl, rfl, Ext.refl _⟩
  case round =>
    obtain ⟨j, hj, rfl, heq, hext⟩ := hrel
    have HA := hid heq
    clear heq
    by_cases hlt : j < xs.length
    · obtain ⟨b, o, x, rfl, hb, hx, hcell⟩ := (h.ext hext).at_ hlt
      obtain ⟨b', o', y, rfl, hb', hy, hcell'⟩ := (h'.ext hext).at_ (i := j) (by rw [← HL.out]; exact hlt)
      have hlt' : j < ys.length := by rw [← HL.out]; exact hlt
      have HS := hid (lex_step hx hy)
      clear hx h hy h'
      by_cases h1 : x < y
      · go_wp2
        go_quiet (fail)
        go_wp2
        go_ret
        exact ⟨ret_int (by rw [HO.out, ← HA.out, HS.out, if_pos h1]), (by repeat (first | with_reducible assumption | with_reducible exact Ext.refl _ | with_reducible apply Ext.drewN | with_reducible apply Ext.drew | with_reducible apply Ext.alloc))⟩
      · by_cases h2 : y < x
        · go_wp2
          go_quiet (fail)
          go_wp2
          go_quiet (fail)
          go_wp2
          go_ret
          exact ⟨ret_int (by rw [HO.out, ← HA.out, HS.out, if_neg (by omega), if_pos h2]), (by repeat (first | with_reducible assumption | with_reducible exact Ext.refl _ | with_reducible apply Ext.drewN | with_reducible apply Ext.drew | with_reducible apply Ext.alloc))⟩
        · go_wp2
          go_quiet (fail)
          go_wp2
          go_quiet (fail)
          go_wp2
          go_roundw
          case rel => exact ⟨j + 1, by omega, by go_num, by rw [← HA.out, HS.out, if_neg (by omega), if_neg (by omega)], (by repeat (first | with_reducible assumption | with_reducible exact Ext.refl _ | with_reducible apply Ext.drewN | with_reducible apply Ext.drew | with_reducible apply Ext.alloc))⟩
          case measure => simp [intOf]; omega
    · go_wp2
      go_ret
      exact ⟨ret_int (by rw [HO.out, ← HA.out, lex_out (by omega), if_neg (by rw [← HL.out]; omega)]), hext⟩
end Go.Proofs.Ytkdggfkigjpbfaa
