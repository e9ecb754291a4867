/- Plain laws of sums: the order of atoms, parts in order, what a sum comes to. No program in sight. Conditions: none. -/
import Derived.Test.YtkdggfkigjpbfaaV
import Derived.Test.YtkdggfkigjpbfaaB
namespace Go.Proofs.Ytkdggfkigjpbfaa
open Go
set_option linter.unusedVariables false

/-! ### the order of atoms -/
theorem lexO_self : ∀ l : List Int, lexO l l = 0
  | [] => rfl
  | a :: l => by simp only [lexO]; rw [if_neg (by omega), if_neg (by omega), lexO_self l]
theorem lexO_eq : ∀ {a b : List Int}, lexO a b = 0 → a = b
  | [], [], _ => rfl
  | [], _ :: _, h => by simp [lexO] at h
  | _ :: _, [], h => by simp [lexO] at h
  | x :: a, y :: b, h => by
    simp only [lexO] at h
    split at h
    · omega
    · split at h
      · omega
      · rw [lexO_eq h, show x = y by omega]
theorem lexO_neg : ∀ a b : List Int, lexO b a = -lexO a b
  | [], [] => rfl
  | [], _ :: _ => rfl
  | _ :: _, [] => rfl
  | x :: a, y :: b => by
    simp only [lexO]
    rw [lexO_neg a b]
    by_cases h1 : x < y
    · rw [if_neg (by omega), if_pos h1, if_pos h1]; rfl
    · by_cases h2 : y < x
      · rw [if_pos h2, if_neg h1, if_pos h2]
      · rw [if_neg h2, if_neg h1, if_neg h1, if_neg h2]
theorem lexO_trans : ∀ {a b c : List Int}, lexO a b < 0 → lexO b c < 0 → lexO a c < 0
  | [], [], c, h, _ => by simp [lexO] at h
  | [], _ :: _, [], _, h => by simp [lexO] at h
  | [], _ :: _, _ :: _, _, _ => by simp [lexO]
  | _ :: _, [], _, h, _ => by simp [lexO] at h
  | _ :: _, _ :: _, [], _, h => by simp [lexO] at h
  | x :: a, y :: b, z :: c, h, k => by
    simp only [lexO] at h k ⊢
    by_cases h1 : x < y
    · by_cases h2 : y < z
      · rw [if_pos (by omega)]; omega
      · rw [if_neg h2] at k
        by_cases h3 : z < y
        · rw [if_pos h3] at k; omega
        · rw [if_pos (by omega)]; omega
    · rw [if_neg h1] at h
      by_cases h1' : y < x
      · rw [if_pos h1'] at h; omega
      · rw [if_neg h1'] at h
        by_cases h2 : y < z
        · rw [if_pos (by omega)]; omega
        · rw [if_neg h2] at k
          by_cases h3 : z < y
          · rw [if_pos h3] at k; omega
          · rw [if_neg h3] at k
            rw [if_neg (by omega), if_neg (by omega)]
            exact lexO_trans h k
theorem aOrd_self (l : List Int) : aOrd l l = 0 := by simp [aOrd, lexO_self]
theorem aOrd_eq {a b : List Int} (h : aOrd a b = 0) : a = b := by
  unfold aOrd at h
  split at h
  · omega
  · split at h
    · omega
    · exact lexO_eq h
theorem aOrd_neg (a b : List Int) : aOrd b a = -aOrd a b := by
  unfold aOrd
  rw [lexO_neg a b]
  by_cases h1 : a.length < b.length
  · rw [if_neg (by omega), if_pos h1, if_pos h1]; rfl
  · by_cases h2 : b.length < a.length
    · rw [if_pos h2, if_neg h1, if_pos h2]
    · rw [if_neg h2, if_neg h1, if_neg h1, if_neg h2]
theorem aOrd_trans {a b c : List Int} (h : aOrd a b < 0) (k : aOrd b c < 0) : aOrd a c < 0 := by
  unfold aOrd at *
  by_cases h1 : a.length < b.length
  · by_cases h2 : b.length < c.length
    · rw [if_pos (by omega)]; omega
    · rw [if_neg h2] at k
      by_cases h3 : c.length < b.length
      · rw [if_pos h3] at k; omega
      · rw [if_pos (by omega)]; omega
  · rw [if_neg h1] at h
    by_cases h1' : b.length < a.length
    · rw [if_pos h1'] at h; omega
    · rw [if_neg h1'] at h
      by_cases h2 : b.length < c.length
      · rw [if_pos (by omega)]; omega
      · rw [if_neg h2] at k
        by_cases h3 : c.length < b.length
        · rw [if_pos h3] at k; omega
        · rw [if_neg h3] at k
          rw [if_neg (by omega), if_neg (by omega)]
          exact lexO_trans h k
theorem aOrd_le_trans {a b c : List Int} (h : aOrd a b ≤ 0) (k : aOrd b c ≤ 0) : aOrd a c ≤ 0 := by
  rcases Int.lt_or_eq_of_le h with h | h
  · rcases Int.lt_or_eq_of_le k with k | k
    · exact Int.le_of_lt (aOrd_trans h k)
    · rw [← aOrd_eq k]; omega
  · rw [aOrd_eq h]; exact k
theorem aOrd_ne {a b : List Int} (h : aOrd a b < 0) : b ≠ a := by
  rintro rfl
  rw [aOrd_self] at h
  omega

/-! ### what a sum comes to -/
abbrev Mono := Int × List Int
def lin (φ : List Int → Int) : List Mono → Int
  | [] => 0
  | m :: p => m.1 * φ m.2 + lin φ p
theorem lin_append (φ : List Int → Int) : ∀ p q : List Mono, lin φ (p ++ q) = lin φ p + lin φ q
  | [], q => by simp [lin]
  | m :: p, q => by simp only [List.cons_append, lin, lin_append φ p q]; omega
theorem lin_perm (φ : List Int → Int) {p q : List Mono} (h : p.Perm q) : lin φ p = lin φ q := by
  induction h with
  | nil => rfl
  | cons x _ ih => simp only [lin, ih]
  | swap x y l => simp only [lin]; omega
  | trans _ _ h1 h2 => exact h1.trans h2
theorem lin_add (φ ψ : List Int → Int) : ∀ p : List Mono, lin (fun a => φ a + ψ a) p = lin φ p + lin ψ p
  | [] => rfl
  | m :: p => by simp only [lin, lin_add φ ψ p, Int.mul_add]; omega
theorem lin_zero : ∀ p : List Mono, lin (fun _ => 0) p = 0
  | [] => rfl
  | m :: p => by simp only [lin, lin_zero p]; omega
theorem lin_mul (φ : List Int → Int) (c : Int) : ∀ p : List Mono, lin (fun a => c * φ a) p = c * lin φ p
  | [] => by simp [lin]
  | m :: p => by simp only [lin, lin_mul φ c p, Int.mul_add]; rw [Int.mul_left_comm]
theorem lin_congr {φ ψ : List Int → Int} : ∀ (p : List Mono), (∀ m ∈ p, wrap (φ m.2) = wrap (ψ m.2)) → wrap (lin φ p) = wrap (lin ψ p)
  | [], _ => rfl
  | m :: p, h => by
    simp only [lin]
    exact wrap_add_congr (wrap_mul_congr rfl (h m List.mem_cons_self)) (lin_congr p fun x hx => h x (List.mem_cons_of_mem _ hx))
theorem lin_comm (ψ : List Int → List Int → Int) (q : List Mono) : ∀ p : List Mono, lin (fun a => lin (fun b => ψ a b) q) p = lin (fun b => lin (fun a => ψ a b) p) q
  | [] => by simp only [lin]; exact (lin_zero q).symm
  | m :: p => by
    simp only [lin]
    rw [lin_comm ψ q p, lin_add, lin_mul]
def Cong (p q : List Mono) : Prop := ∀ φ : List Int → Int, wrap (lin φ p) = wrap (lin φ q)
theorem Cong.refl (p : List Mono) : Cong p p := fun _ => rfl
theorem Cong.symm {p q : List Mono} (h : Cong p q) : Cong q p := fun φ => (h φ).symm
theorem Cong.trans {p q r : List Mono} (h : Cong p q) (k : Cong q r) : Cong p r := fun φ => (h φ).trans (k φ)
theorem Cong.append {p q p' q' : List Mono} (h : Cong p p') (k : Cong q q') : Cong (p ++ q) (p' ++ q') := fun φ => by rw [lin_append, lin_append]; exact wrap_add_congr (h φ) (k φ)
theorem Cong.perm {p q : List Mono} (h : p.Perm q) : Cong p q := fun φ => by rw [lin_perm φ h]

/-! ### parts in order -/
theorem chain_tail {x : Mono} : ∀ {l : List Mono}, chainB (x :: l) = true → chainB l = true
  | [], _ => rfl
  | b :: l, h => by rw [chainB, Bool.and_eq_true] at h; exact h.2
theorem chain_lt : ∀ {l : List Mono} {x : Mono}, chainB (x :: l) = true → ∀ y ∈ l, aOrd x.2 y.2 < 0
  | [], x, _, y, hy => by cases hy
  | b :: l, x, h, y, hy => by
    have h' := h
    rw [chainB, Bool.and_eq_true] at h'
    have h1 := of_decide_eq_true h'.1
    rcases List.mem_cons.1 hy with rfl | hy
    · exact h1
    · exact aOrd_trans h1 (chain_lt h'.2 y hy)
theorem chain_cons {x : Mono} : ∀ {l : List Mono}, (∀ y ∈ l, aOrd x.2 y.2 < 0) → chainB l = true → chainB (x :: l) = true
  | [], _, _ => rfl
  | b :: l, h, k => by rw [chainB, Bool.and_eq_true]; exact ⟨decide_eq_true (h b List.mem_cons_self), k⟩
theorem chain_snoc : ∀ {l : List Mono} {x : Mono}, chainB l = true → (∀ y ∈ l, aOrd y.2 x.2 < 0) → chainB (l ++ [x]) = true
  | [], x, _, _ => rfl
  | b :: l, x, h, k => by
    rw [List.cons_append]
    refine chain_cons (fun y hy => ?_) (chain_snoc (chain_tail h) fun y hy => k y (List.mem_cons_of_mem _ hy))
    rcases List.mem_append.1 hy with hy | hy
    · exact chain_lt h y hy
    · rw [List.mem_singleton.1 hy]; exact k b List.mem_cons_self
structure Canon (p : List Mono) : Prop where
  chain : chainB p = true
  coef : ∀ m ∈ p, 1 ≤ m.1 ∧ m.1 ≤ 65535
theorem Canon.nil : Canon [] := ⟨rfl, fun _ h => by cases h⟩
theorem Canon.tail {x : Mono} {p : List Mono} (h : Canon (x :: p)) : Canon p := ⟨chain_tail h.chain, fun m hm => h.coef m (List.mem_cons_of_mem _ hm)⟩
def ind (k a : List Int) : Int := if a = k then 1 else 0
theorem lin_ind_zero {k : List Int} : ∀ {p : List Mono}, (∀ y ∈ p, y.2 ≠ k) → lin (ind k) p = 0
  | [], _ => rfl
  | m :: p, h => by
    simp only [lin, ind]
    rw [if_neg (h m List.mem_cons_self), lin_ind_zero fun y hy => h y (List.mem_cons_of_mem _ hy)]
    omega
theorem lin_ind_head {x : Mono} {l : List Mono} (h : chainB (x :: l) = true) : lin (ind x.2) (x :: l) = x.1 := by
  simp only [lin]
  rw [lin_ind_zero fun y hy => aOrd_ne (chain_lt h y hy)]
  simp [ind]
theorem canon_eq : ∀ {p q : List Mono}, Canon p → Canon q → Cong p q → p = q
  | [], [], _, _, _ => rfl
  | [], y :: q, _, hq, h => by
    have e := h (ind y.2)
    rw [lin_ind_head hq.chain] at e
    have := hq.coef y List.mem_cons_self
    simp only [lin] at e
    unfold wrap at e
    omega
  | x :: p, [], hp, _, h => by
    have e := h (ind x.2)
    rw [lin_ind_head hp.chain] at e
    have := hp.coef x List.mem_cons_self
    simp only [lin] at e
    unfold wrap at e
    omega
  | x :: p, y :: q, hp, hq, h => by
    have cx := hp.coef x List.mem_cons_self
    have cy := hq.coef y List.mem_cons_self
    rcases Int.lt_trichotomy (aOrd x.2 y.2) 0 with ho | ho | ho
    · have e := h (ind x.2)
      rw [lin_ind_head hp.chain, lin_ind_zero (p := y :: q) fun z hz => aOrd_ne (by
        rcases List.mem_cons.1 hz with rfl | hz
        · exact ho
        · exact aOrd_trans ho (chain_lt hq.chain z hz))] at e
      unfold wrap at e
      omega
    · have e2 := aOrd_eq ho
      have e := h (ind x.2)
      rw [lin_ind_head hp.chain, e2, lin_ind_head hq.chain] at e
      have e1 : x.1 = y.1 := by unfold wrap at e; omega
      obtain ⟨c, a⟩ := x
      obtain ⟨c', a'⟩ := y
      simp only at e1 e2
      subst e1 e2
      rw [canon_eq hp.tail hq.tail fun φ => by
        have := h φ
        simp only [lin] at this
        generalize lin φ p = u at *
        generalize lin φ q = v at *
        generalize c * φ a = t at *
        unfold wrap at *
        omega]
    · have e := h (ind y.2)
      have ho' : aOrd y.2 x.2 < 0 := by rw [aOrd_neg x.2 y.2]; omega
      rw [lin_ind_head hq.chain, lin_ind_zero (p := x :: p) fun z hz => aOrd_ne (by
        rcases List.mem_cons.1 hz with rfl | hz
        · exact ho'
        · exact aOrd_trans ho' (chain_lt hp.chain z hz))] at e
      unfold wrap at e
      omega

/-- A sum with a part more. -/
def plus : List Mono → Mono → List Mono
  | [], m => [m]
  | x :: l, m => if aOrd m.2 x.2 < 0 then m :: x :: l else if aOrd m.2 x.2 = 0 then (if 0 < wrap (x.1 + m.1) then (wrap (x.1 + m.1), x.2) :: l else l) else x :: plus l m
theorem plus_lin (φ : List Int → Int) (m : Mono) : ∀ l : List Mono, wrap (lin φ (plus l m)) = wrap (lin φ l + m.1 * φ m.2)
  | [] => by simp only [plus, lin]; rw [Int.add_comm]
  | x :: l => by
    simp only [plus]
    split
    · simp only [lin]; congr 1; omega
    · split
      · next h1 h2 =>
        rw [aOrd_eq h2]
        have e : wrap (wrap (x.1 + m.1) * φ x.2 + lin φ l) = wrap (lin φ (x :: l) + m.1 * φ x.2) := by
          rw [← wrap_add_left, wrap_mul_left, wrap_add_left]
          simp only [lin, Int.add_mul]
          congr 1
          omega
        split
        · exact e
        · next h3 =>
          have hb := wrap_bounds (x.1 + m.1)
          rw [show wrap (x.1 + m.1) = 0 by omega] at e
          rw [← e]
          congr 1
          omega
      · simp only [lin]
        rw [← wrap_add_right, plus_lin φ m l, wrap_add_right]
        congr 1
        omega
theorem plus_mem {m : Mono} : ∀ {l : List Mono} {y : Mono}, y ∈ plus l m → y.2 = m.2 ∨ ∃ x ∈ l, y.2 = x.2
  | [], y, h => by simp only [plus, List.mem_singleton] at h; exact .inl (by rw [h])
  | x :: l, y, h => by
    simp only [plus] at h
    split at h
    · rcases List.mem_cons.1 h with rfl | h
      · exact .inl rfl
      · exact .inr ⟨y, h, rfl⟩
    · split at h
      · split at h
        · rcases List.mem_cons.1 h with rfl | h
          · exact .inr ⟨x, List.mem_cons_self, rfl⟩
          · exact .inr ⟨y, List.mem_cons_of_mem _ h, rfl⟩
        · exact .inr ⟨y, List.mem_cons_of_mem _ h, rfl⟩
      · rcases List.mem_cons.1 h with rfl | h
        · exact .inr ⟨y, List.mem_cons_self, rfl⟩
        · rcases plus_mem h with e | ⟨z, hz, e⟩
          · exact .inl e
          · exact .inr ⟨z, List.mem_cons_of_mem _ hz, e⟩
theorem plus_length (m : Mono) : ∀ l : List Mono, (plus l m).length ≤ l.length + 1
  | [] => by simp [plus]
  | x :: l => by
    have := plus_length m l
    simp only [plus]
    split
    · simp
    · split
      · split
        · simp
        · simp; omega
      · simp; omega
theorem plus_canon {m : Mono} (hm : 1 ≤ m.1 ∧ m.1 ≤ 65535) : ∀ {l : List Mono}, Canon l → Canon (plus l m)
  | [], _ => ⟨rfl, fun y hy => by simp only [plus, List.mem_singleton] at hy; rw [hy]; exact hm⟩
  | x :: l, h => by
    have hc := h.coef
    simp only [plus]
    split
    · next ho =>
      refine ⟨chain_cons (fun y hy => ?_) h.chain, fun y hy => ?_⟩
      · rcases List.mem_cons.1 hy with rfl | hy
        · exact ho
        · exact aOrd_trans ho (chain_lt h.chain y hy)
      · rcases List.mem_cons.1 hy with rfl | hy
        · exact hm
        · exact hc y hy
    · split
      · split
        · next h3 =>
          have hb := wrap_bounds (x.1 + m.1)
          refine ⟨chain_cons (fun y hy => chain_lt h.chain y hy) (chain_tail h.chain), fun y hy => ?_⟩
          rcases List.mem_cons.1 hy with rfl | hy
          · exact ⟨by simp only; omega, by simp only; omega⟩
          · exact hc y (List.mem_cons_of_mem _ hy)
        · exact h.tail
      · next h1 h2 =>
        have ho : aOrd x.2 m.2 < 0 := by rw [aOrd_neg m.2 x.2]; omega
        have ih := plus_canon hm h.tail
        refine ⟨chain_cons (fun y hy => ?_) ih.chain, fun y hy => ?_⟩
        · rcases plus_mem hy with e | ⟨z, hz, e⟩
          · rw [e]; exact ho
          · rw [e]; exact chain_lt h.chain z hz
        · rcases List.mem_cons.1 hy with rfl | hy
          · exact hc y List.mem_cons_self
          · exact ih.coef y hy
/-- The sum of parts, in order. -/
def norm : List Mono → List Mono
  | [] => []
  | m :: l => if 0 < wrap m.1 then plus (norm l) (wrap m.1, m.2) else norm l
theorem norm_canon : ∀ l : List Mono, Canon (norm l)
  | [] => Canon.nil
  | m :: l => by
    have hb := wrap_bounds m.1
    simp only [norm]
    split
    · exact plus_canon ⟨by simp only; omega, by simp only; omega⟩ (norm_canon l)
    · exact norm_canon l
theorem norm_cong : ∀ l : List Mono, Cong (norm l) l
  | [] => Cong.refl _
  | m :: l => fun φ => by
    have ih := norm_cong l φ
    have hb := wrap_bounds m.1
    simp only [norm, lin]
    split
    · rw [plus_lin, Int.add_comm]
      exact wrap_add_congr (wrap_mul_left _ _) ih
    · next h =>
      have e : wrap (m.1 * φ m.2) = 0 := by
        rw [← wrap_mul_left, show wrap m.1 = 0 by omega, Int.zero_mul]
        rfl
      rw [ih, ← wrap_add_left, e, Int.zero_add]
theorem norm_mem : ∀ {l : List Mono} {y : Mono}, y ∈ norm l → ∃ x ∈ l, y.2 = x.2
  | [], y, h => by cases h
  | m :: l, y, h => by
    simp only [norm] at h
    split at h
    · rcases plus_mem h with e | ⟨x, hx, e⟩
      · exact ⟨m, List.mem_cons_self, e⟩
      · obtain ⟨z, hz, e'⟩ := norm_mem hx
        exact ⟨z, List.mem_cons_of_mem _ hz, e.trans e'⟩
    · obtain ⟨z, hz, e'⟩ := norm_mem h
      exact ⟨z, List.mem_cons_of_mem _ hz, e'⟩
theorem norm_length : ∀ l : List Mono, (norm l).length ≤ l.length
  | [] => Nat.le_refl _
  | m :: l => by
    have ih := norm_length l
    simp only [norm]
    split
    · have := plus_length (wrap m.1, m.2) (norm l)
      simp; omega
    · simp; omega
theorem norm_unique {p l : List Mono} (h : Canon p) (hc : Cong p l) : p = norm l := canon_eq h (norm_canon l) (hc.trans (norm_cong l).symm)
theorem norm_eq {l l' : List Mono} (hc : Cong l l') : norm l = norm l' := norm_unique (norm_canon l) ((norm_cong l).trans hc)
theorem norm_self {p : List Mono} (h : Canon p) : norm p = p := (norm_unique h (Cong.refl p)).symm

/-- So many times a sum. -/
def scl (n : Int) (a : List Mono) : List Mono := a.filterMap fun m => if 0 < wrap (m.1 * n) then some (wrap (m.1 * n), m.2) else none
theorem scl_mem {n : Int} {a : List Mono} {y : Mono} (h : y ∈ scl n a) : (1 ≤ y.1 ∧ y.1 ≤ 65535) ∧ ∃ x ∈ a, y.2 = x.2 := by
  obtain ⟨x, hx, e⟩ := List.mem_filterMap.1 h
  have hb := wrap_bounds (x.1 * n)
  split at e
  · injection e with e
    subst e
    exact ⟨⟨by simp only; omega, by simp only; omega⟩, x, hx, rfl⟩
  · cases e
theorem scl_cong (n : Int) : ∀ (a : List Mono) (φ : List Int → Int), wrap (lin φ (scl n a)) = wrap (n * lin φ a)
  | [], φ => by simp [scl, lin]
  | m :: a, φ => by
    have ih := scl_cong n a φ
    have hb := wrap_bounds (m.1 * n)
    have e : wrap (n * lin φ (m :: a)) = wrap (m.1 * n * φ m.2 + n * lin φ a) := by
      simp only [lin, Int.mul_add]
      rw [← Int.mul_assoc, Int.mul_comm n m.1]
    rw [e]
    unfold scl at ih ⊢
    rw [List.filterMap_cons]
    by_cases h : 0 < wrap (m.1 * n)
    · rw [if_pos h]
      simp only [lin]
      exact wrap_add_congr (wrap_mul_left _ _) ih
    · rw [if_neg h]
      have e : wrap (m.1 * n * φ m.2) = 0 := by
        rw [← wrap_mul_left, show wrap (m.1 * n) = 0 by omega, Int.zero_mul]
        rfl
      simp only
      rw [ih, ← wrap_add_left, e, Int.zero_add]
theorem scl_chain (n : Int) : ∀ {a : List Mono}, chainB a = true → chainB (scl n a) = true
  | [], _ => rfl
  | m :: a, h => by
    have ih := scl_chain n (chain_tail h)
    have hl : ∀ y ∈ scl n a, aOrd m.2 y.2 < 0 := fun y hy => by
      obtain ⟨_, x, hx, e⟩ := scl_mem hy
      rw [e]
      exact chain_lt h x hx
    unfold scl at ih hl ⊢
    rw [List.filterMap_cons]
    by_cases h : 0 < wrap (m.1 * n)
    · rw [if_pos h]
      exact chain_cons hl ih
    · rw [if_neg h]
      exact ih
theorem scl_canon (n : Int) {a : List Mono} (h : chainB a = true) : Canon (scl n a) := ⟨scl_chain n h, fun y hy => (scl_mem hy).1⟩
theorem scl_length (n : Int) (a : List Mono) : (scl n a).length ≤ a.length := List.length_filterMap_le _ _
theorem scl_norm (n : Int) {a l : List Mono} (h : chainB a = true) (hl : ∀ φ, wrap (n * lin φ a) = wrap (lin φ l)) : scl n a = norm l := norm_unique (scl_canon n h) fun φ => (scl_cong n a φ).trans (hl φ)

/-! ### atoms together -/
theorem sorted_tail {a : Int} : ∀ {l : List Int}, sortedB (a :: l) = true → sortedB l = true
  | [], _ => rfl
  | b :: l, h => by rw [sortedB, Bool.and_eq_true] at h; exact h.2
theorem sorted_cons {a : Int} : ∀ {l : List Int}, (∀ x ∈ l, a ≤ x) → sortedB l = true → sortedB (a :: l) = true
  | [], _, _ => rfl
  | b :: l, h, k => by rw [sortedB, Bool.and_eq_true]; exact ⟨decide_eq_true (h b List.mem_cons_self), k⟩
theorem sorted_append : ∀ {a b : List Int}, sortedB a = true → sortedB b = true → (∀ x ∈ a, ∀ y ∈ b, x ≤ y) → sortedB (a ++ b) = true
  | [], b, _, hb, _ => hb
  | x :: a, b, ha, hb, h => by
    rw [List.cons_append]
    refine sorted_cons (fun y hy => ?_) (sorted_append (sorted_tail ha) hb fun x hx => h x (List.mem_cons_of_mem _ hx))
    rcases List.mem_append.1 hy with hy | hy
    · exact sorted_le ha y hy
    · exact h x List.mem_cons_self y hy
theorem sorted_perm : ∀ {a b : List Int}, sortedB a = true → sortedB b = true → a.Perm b → a = b
  | [], b, _, _, h => (h.symm.eq_nil).symm
  | x :: a, [], _, _, h => by have := h.eq_nil; cases this
  | x :: a, y :: b, ha, hb, h => by
    have hx : x ∈ y :: b := h.subset List.mem_cons_self
    have hy : y ∈ x :: a := h.symm.subset List.mem_cons_self
    have e : x = y := by
      have h1 : y ≤ x := by
        rcases List.mem_cons.1 hx with rfl | hx
        · exact Int.le_refl _
        · exact sorted_le hb x hx
      have h2 : x ≤ y := by
        rcases List.mem_cons.1 hy with rfl | hy
        · exact Int.le_refl _
        · exact sorted_le ha y hy
      omega
    subst e
    rw [sorted_perm (sorted_tail ha) (sorted_tail hb) (List.Perm.cons_inv h)]
def insI (x : Int) : List Int → List Int
  | [] => [x]
  | y :: l => if x ≤ y then x :: y :: l else y :: insI x l
def srt : List Int → List Int
  | [] => []
  | x :: l => insI x (srt l)
theorem insI_perm (x : Int) : ∀ l : List Int, (insI x l).Perm (x :: l)
  | [] => List.Perm.refl _
  | y :: l => by
    simp only [insI]
    split
    · exact List.Perm.refl _
    · exact ((insI_perm x l).cons y).trans (List.Perm.swap x y l)
theorem srt_perm : ∀ l : List Int, (srt l).Perm l
  | [] => List.Perm.refl _
  | x :: l => (insI_perm x (srt l)).trans ((srt_perm l).cons x)
theorem insI_sorted (x : Int) : ∀ {l : List Int}, sortedB l = true → sortedB (insI x l) = true
  | [], _ => rfl
  | y :: l, h => by
    simp only [insI]
    split
    · next hxy =>
      refine sorted_cons (fun z hz => ?_) h
      rcases List.mem_cons.1 hz with rfl | hz
      · exact hxy
      · exact Int.le_trans hxy (sorted_le h z hz)
    · next hxy =>
      refine sorted_cons (fun z hz => ?_) (insI_sorted x (sorted_tail h))
      rcases List.mem_cons.1 ((insI_perm x l).subset hz) with rfl | hz
      · omega
      · exact sorted_le h z hz
theorem srt_sorted : ∀ l : List Int, sortedB (srt l) = true
  | [] => rfl
  | x :: l => insI_sorted x (srt_sorted l)
theorem srt_of {l l' : List Int} (h : sortedB l = true) (hp : l.Perm l') : l = srt l' := sorted_perm h (srt_sorted l') (hp.trans (srt_perm l').symm)
theorem srt_eq {l l' : List Int} (hp : l.Perm l') : srt l = srt l' := srt_of (srt_sorted l) ((srt_perm l).trans hp)
theorem srt_self {l : List Int} (h : sortedB l = true) : srt l = l := (srt_of h (List.Perm.refl l)).symm
theorem srt_length (l : List Int) : (srt l).length = l.length := (srt_perm l).length_eq

/-- All products of parts of two sums. -/
def prods (a b : List Mono) : List Mono := a.flatMap fun x => b.map fun y => (wrap (x.1 * y.1), srt (x.2 ++ y.2))
theorem lin_row (φ : List Int → Int) (x : Mono) : ∀ b : List Mono, wrap (lin φ (b.map fun y => (wrap (x.1 * y.1), srt (x.2 ++ y.2)))) = wrap (x.1 * lin (fun β => φ (srt (x.2 ++ β))) b)
  | [] => by simp [lin]
  | y :: b => by
    simp only [List.map_cons, lin, Int.mul_add]
    refine wrap_add_congr ?_ (lin_row φ x b)
    rw [wrap_mul_left, Int.mul_assoc]
theorem prods_lin (φ : List Int → Int) (b : List Mono) : ∀ a : List Mono, wrap (lin φ (prods a b)) = wrap (lin (fun α => lin (fun β => φ (srt (α ++ β))) b) a)
  | [] => rfl
  | x :: a => by
    have ih := prods_lin φ b a
    unfold prods at ih ⊢
    rw [List.flatMap_cons, lin_append]
    simp only [lin]
    exact wrap_add_congr (lin_row φ x b) ih
theorem prods_comm (a b : List Mono) : Cong (prods a b) (prods b a) := fun φ => by
  rw [prods_lin, prods_lin, lin_comm]
  congr 2
  funext β
  congr 1
  funext α
  rw [srt_eq List.perm_append_comm]
theorem prods_cong {b b' : List Mono} (a : List Mono) (h : Cong b b') : Cong (prods a b) (prods a b') := fun φ => by
  rw [prods_lin, prods_lin]
  exact lin_congr a fun m _ => h _
theorem prods_append (a b c : List Mono) : Cong (prods a (b ++ c)) (prods a b ++ prods a c) := fun φ => by
  rw [prods_lin, lin_append, ← wrap_add_left, prods_lin, wrap_add_left, ← wrap_add_right, prods_lin, wrap_add_right, ← lin_add]
  congr 2
  funext α
  rw [lin_append]
theorem prods_mem {a b : List Mono} {y : Mono} (h : y ∈ prods a b) : ∃ x ∈ a, ∃ z ∈ b, y.2 = srt (x.2 ++ z.2) := by
  obtain ⟨x, hx, h⟩ := List.mem_flatMap.1 h
  obtain ⟨z, hz, rfl⟩ := List.mem_map.1 h
  exact ⟨x, hx, z, hz, rfl⟩
theorem prods_length (a b : List Mono) : (prods a b).length = a.length * b.length := by
  induction a with
  | nil => simp [prods]
  | cons x a ih =>
    unfold prods at ih ⊢
    rw [List.flatMap_cons, List.length_append, ih, List.length_map, List.length_cons, Nat.add_mul]
    omega
/-- What atoms come to. -/
def prodAt (vs : List Int) : List Int → Int
  | [] => 1
  | k :: l => valAt vs k * prodAt vs l
theorem prodAt_append (vs : List Int) : ∀ a b : List Int, prodAt vs (a ++ b) = prodAt vs a * prodAt vs b
  | [], b => by simp [prodAt]
  | k :: a, b => by simp only [List.cons_append, prodAt, prodAt_append vs a b, Int.mul_assoc]
theorem prodAt_perm (vs : List Int) {a b : List Int} (h : a.Perm b) : prodAt vs a = prodAt vs b := by
  induction h with
  | nil => rfl
  | cons x _ ih => simp only [prodAt, ih]
  | swap x y l => simp only [prodAt]; rw [Int.mul_left_comm]
  | trans _ _ h1 h2 => exact h1.trans h2
theorem monoEval_eq (vs : List Int) : ∀ (l : List Int) (c : Int), wrap (l.foldl (mulAt vs) c) = wrap (c * prodAt vs l)
  | [], c => by simp [prodAt]
  | k :: l, c => by
    rw [List.foldl_cons, monoEval_eq vs l, mulAt, wrap_mul_left]
    simp only [prodAt, Int.mul_assoc]
theorem polRaw_go (vs : List Int) : ∀ (p : List Mono) (n : Int), wrap (p.foldl (addAt vs) n) = wrap (n + lin (prodAt vs) p)
  | [], n => by simp [lin]
  | m :: p, n => by
    rw [List.foldl_cons, polRaw_go vs p, addAt, wrap_add_left]
    simp only [lin]
    have := monoEval_eq vs m.2 m.1
    unfold monoEval
    unfold wrap at *
    omega
theorem fold_wrapped (vs : List Int) : ∀ (p : List Mono) (n : Int), wrap n = n → wrap (p.foldl (addAt vs) n) = p.foldl (addAt vs) n
  | [], n, h => h
  | m :: p, n, _ => by rw [List.foldl_cons]; exact fold_wrapped vs p _ (wrap_idem _)
theorem polRaw_eq (vs : List Int) (p : List Mono) : polRaw vs p = wrap (lin (prodAt vs) p) := by
  unfold polRaw
  rw [← fold_wrapped vs p 0 rfl, polRaw_go, Int.zero_add]
theorem polRaw_cong {vs : List Int} {p q : List Mono} (h : Cong p q) : polRaw vs p = polRaw vs q := by rw [polRaw_eq, polRaw_eq, h]
theorem polRaw_append (vs : List Int) (p q : List Mono) : polRaw vs (p ++ q) = wrap (polRaw vs p + polRaw vs q) := by
  rw [polRaw_eq, polRaw_eq, polRaw_eq, lin_append, wrap_add_left, wrap_add_right]
theorem polRaw_prods (vs : List Int) (p q : List Mono) : polRaw vs (prods p q) = wrap (polRaw vs p * polRaw vs q) := by
  rw [polRaw_eq, polRaw_eq, polRaw_eq, prods_lin, wrap_mul_left, wrap_mul_right, Int.mul_comm, ← lin_mul]
  congr 2
  funext α
  rw [Int.mul_comm, ← lin_mul]
  congr 1
  funext β
  rw [prodAt_perm vs (srt_perm _), prodAt_append]
theorem polRaw_scl (vs : List Int) (n : Int) (p : List Mono) : polRaw vs (scl n p) = wrap (n * polRaw vs p) := by
  rw [polRaw_eq, polRaw_eq, scl_cong, wrap_mul_right]

/-! ### what fits -/
/-- Parts as a sum, if they fit. -/
def fitB (p : List Mono) : Bool := decide (p.length ≤ 12) && p.all fun m => decide (m.2.length ≤ 4)
def fitP (p : List Mono) : List Mono × Bool := if fitB p then (p, true) else ([], false)
/-- Atoms that may stand together. -/
def atomsOk (l : List Int) : Prop := sortedB l = true ∧ ∀ a ∈ l, 0 ≤ a ∧ a ≤ 199
theorem monoOk_iff (m : Mono) : monoOk m = true ↔ (1 ≤ m.1 ∧ m.1 ≤ 65535) ∧ m.2.length ≤ 4 ∧ atomsOk m.2 := by
  unfold monoOk atomsOk inB
  simp only [Bool.and_eq_true, decide_eq_true_eq, List.all_eq_true]
  constructor
  · rintro ⟨⟨⟨h1, h2⟩, h3⟩, h4⟩
    exact ⟨h1, h2, h4, h3⟩
  · rintro ⟨h1, h2, h4, h3⟩
    exact ⟨⟨⟨h1, h2⟩, h3⟩, h4⟩
theorem polOk_iff (p : List Mono) : polOk p = true ↔ Canon p ∧ fitB p = true ∧ ∀ m ∈ p, atomsOk m.2 := by
  unfold polOk fitB
  simp only [Bool.and_eq_true, List.all_eq_true, decide_eq_true_eq, monoOk_iff]
  constructor
  · rintro ⟨⟨h1, h2⟩, h3⟩
    exact ⟨⟨h3, fun m hm => (h2 m hm).1⟩, ⟨h1, fun m hm => (h2 m hm).2.1⟩, fun m hm => (h2 m hm).2.2⟩
  · rintro ⟨h1, ⟨h2, h3⟩, h4⟩
    exact ⟨⟨h2, fun m hm => ⟨h1.coef m hm, h3 m hm, h4 m hm⟩⟩, h1.chain⟩
theorem polOk_canon {p : List Mono} (h : polOk p = true) : Canon p := ((polOk_iff p).1 h).1
theorem polOk_atoms {p : List Mono} (h : polOk p = true) {m : Mono} (hm : m ∈ p) : atomsOk m.2 := ((polOk_iff p).1 h).2.2 m hm
theorem polOk_length {p : List Mono} (h : polOk p = true) : p.length ≤ 12 := by
  have := ((polOk_iff p).1 h).2.1
  unfold fitB at this
  rw [Bool.and_eq_true] at this
  exact of_decide_eq_true this.1
theorem polOk_deg {p : List Mono} (h : polOk p = true) {m : Mono} (hm : m ∈ p) : m.2.length ≤ 4 := by
  have := ((polOk_iff p).1 h).2.1
  unfold fitB at this
  rw [Bool.and_eq_true] at this
  exact of_decide_eq_true (List.all_eq_true.1 this.2 m hm)
theorem polOk_eq_fit {p : List Mono} (hc : Canon p) (ha : ∀ m ∈ p, atomsOk m.2) : polOk p = fitB p := by
  rw [Bool.eq_iff_iff, polOk_iff]
  exact ⟨fun h => h.2.1, fun h => ⟨hc, h, ha⟩⟩
def polAdd (a b : List Mono) : List Mono × Bool := if polOk a && polOk b then fitP (norm (a ++ b)) else ([], false)
def polMul (a b : List Mono) : List Mono × Bool := if polOk a && polOk b then fitP (norm (prods a b)) else ([], false)
def polScale (a : List Mono) (n : Int) : List Mono := if polOk a && wrdOk n then scl n a else []
theorem norm_atoms {l : List Mono} (h : ∀ m ∈ l, atomsOk m.2) : ∀ m ∈ norm l, atomsOk m.2 := fun m hm => by
  obtain ⟨x, hx, e⟩ := norm_mem hm
  rw [e]
  exact h x hx
theorem polOk_norm {l : List Mono} (h : ∀ m ∈ l, atomsOk m.2) : polOk (norm l) = fitB (norm l) := polOk_eq_fit (norm_canon l) (norm_atoms h)
theorem add_atoms {a b : List Mono} (ha : polOk a = true) (hb : polOk b = true) : ∀ m ∈ a ++ b, atomsOk m.2 := fun m hm => by
  rcases List.mem_append.1 hm with hm | hm
  · exact polOk_atoms ha hm
  · exact polOk_atoms hb hm
theorem srt_atoms {x y : List Int} (hx : atomsOk x) (hy : atomsOk y) : atomsOk (srt (x ++ y)) := ⟨srt_sorted _, fun a ha => by
  rcases List.mem_append.1 ((srt_perm _).subset ha) with h | h
  · exact hx.2 a h
  · exact hy.2 a h⟩
theorem prods_atoms {a b : List Mono} (ha : polOk a = true) (hb : polOk b = true) : ∀ m ∈ prods a b, atomsOk m.2 := fun m hm => by
  obtain ⟨x, hx, z, hz, e⟩ := prods_mem hm
  rw [e]
  exact srt_atoms (polOk_atoms ha hx) (polOk_atoms hb hz)
theorem fitP_true {p : List Mono} (h : fitB p = true) : fitP p = (p, true) := by unfold fitP; rw [if_pos h]
theorem fitP_false {p : List Mono} (h : fitB p = false) : fitP p = ([], false) := by unfold fitP; rw [if_neg (by simp [h])]
theorem fitP_snd (p : List Mono) : (fitP p).2 = fitB p := by
  cases h : fitB p
  · rw [fitP_false h]
  · rw [fitP_true h]
theorem polOk_fitP {l : List Mono} (h : ∀ m ∈ l, atomsOk m.2) : polOk (fitP (norm l)).1 = true := by
  cases hf : fitB (norm l)
  · rw [fitP_false hf]; rfl
  · rw [fitP_true hf, polOk_norm h]; exact hf
theorem polOk_polAdd (a b : List Mono) : polOk (polAdd a b).1 = true := by
  unfold polAdd
  split
  · next h => rw [Bool.and_eq_true] at h; exact polOk_fitP (add_atoms h.1 h.2)
  · rfl
theorem polOk_polMul (a b : List Mono) : polOk (polMul a b).1 = true := by
  unfold polMul
  split
  · next h => rw [Bool.and_eq_true] at h; exact polOk_fitP (prods_atoms h.1 h.2)
  · rfl
theorem fitB_scl {a : List Mono} (n : Int) (h : fitB a = true) : fitB (scl n a) = true := by
  unfold fitB at *
  rw [Bool.and_eq_true] at *
  refine ⟨decide_eq_true (Nat.le_trans (scl_length n a) (of_decide_eq_true h.1)), List.all_eq_true.2 fun m hm => ?_⟩
  obtain ⟨_, x, hx, e⟩ := scl_mem hm
  rw [e]
  exact List.all_eq_true.1 h.2 x hx
theorem polOk_scl {a : List Mono} (n : Int) (h : polOk a = true) : polOk (scl n a) = true := (polOk_iff _).2 ⟨scl_canon n (polOk_canon h).chain, fitB_scl n ((polOk_iff a).1 h).2.1, fun m hm => by
  obtain ⟨_, x, hx, e⟩ := scl_mem hm
  rw [e]
  exact polOk_atoms h hx⟩
theorem polOk_polScale (a : List Mono) (n : Int) : polOk (polScale a n) = true := by
  unfold polScale
  split
  · next h => rw [Bool.and_eq_true] at h; exact polOk_scl n h.1
  · rfl
end Go.Proofs.Ytkdggfkigjpbfaa
