/- Plain laws of sums: what the laws FnPolAdd, FnPolMul, FnPolScale, FnPolTwice, FnPolFit, FnPolRing, FnPolOrder, FnPolUnder ask. No program in sight. Conditions: none. -/
import Derived.Test.YtkdggfkigjpbfaaI
import Derived.Test.YtkdggfkigjpbfaaG
import Derived.Test.YtkdggfkigjpbfaaQ
namespace Go.Proofs.Ytkdggfkigjpbfaa
open Go
set_option linter.unusedVariables false

theorem polAdd_no {a b : List Mono} (h : (polOk a && polOk b) = false) : polAdd a b = ([], false) := by unfold polAdd; rw [if_neg (by simp [h])]
theorem polMul_no {a b : List Mono} (h : (polOk a && polOk b) = false) : polMul a b = ([], false) := by unfold polMul; rw [if_neg (by simp [h])]
theorem polScale_no {a : List Mono} {n : Int} (h : (polOk a && wrdOk n) = false) : polScale a n = [] := by unfold polScale; rw [if_neg (by simp [h])]
theorem polAdd_yes {a b : List Mono} (ha : polOk a = true) (hb : polOk b = true) : polAdd a b = fitP (norm (a ++ b)) := by unfold polAdd; rw [ha, hb]; rfl
theorem polMul_yes {a b : List Mono} (ha : polOk a = true) (hb : polOk b = true) : polMul a b = fitP (norm (prods a b)) := by unfold polMul; rw [ha, hb]; rfl
theorem polScale_yes {a : List Mono} {n : Int} (ha : polOk a = true) (hn : wrdOk n = true) : polScale a n = scl n a := by unfold polScale; rw [ha, hn]; rfl
theorem polAdd_comm (a b : List Mono) : polAdd a b = polAdd b a := by
  unfold polAdd
  rw [Bool.and_comm, norm_eq (Cong.perm List.perm_append_comm)]
theorem polMul_comm (a b : List Mono) : polMul a b = polMul b a := by
  unfold polMul
  rw [Bool.and_comm, norm_eq (prods_comm a b)]
theorem fitP_fst {p : List Mono} (h : (fitP p).2 = true) : (fitP p).1 = p := by
  rw [fitP_snd] at h
  rw [fitP_true h]
theorem polAdd_fst {a b : List Mono} (h : (polAdd a b).2 = true) : (polOk a = true ∧ polOk b = true) ∧ (polAdd a b).1 = norm (a ++ b) ∧ fitB (norm (a ++ b)) = true := by
  cases hok : polOk a && polOk b
  · rw [polAdd_no hok] at h; cases h
  · rw [Bool.and_eq_true] at hok
    rw [polAdd_yes hok.1 hok.2] at h ⊢
    exact ⟨hok, fitP_fst h, by rw [← fitP_snd]; exact h⟩
theorem polMul_fst {a b : List Mono} (h : (polMul a b).2 = true) : (polOk a = true ∧ polOk b = true) ∧ (polMul a b).1 = norm (prods a b) ∧ fitB (norm (prods a b)) = true := by
  cases hok : polOk a && polOk b
  · rw [polMul_no hok] at h; cases h
  · rw [Bool.and_eq_true] at hok
    rw [polMul_yes hok.1 hok.2] at h ⊢
    exact ⟨hok, fitP_fst h, by rw [← fitP_snd]; exact h⟩
theorem polEval_yes {p : List Mono} {vs : List Int} (hp : polOk p = true) (hv : wordsB vs = true) : polEval p vs = polRaw vs p := by unfold polEval; rw [hp, hv]; rfl
theorem polRaw_word (vs : List Int) (p : List Mono) : wrdOk (polRaw vs p) = true := by rw [polRaw_eq]; exact wrdOk_wrap _
theorem add_eval {a b : List Mono} {vs : List Int} (h : (polAdd a b).2 = true) (hv : wordsB vs = true) : polEval (polAdd a b).1 vs = wrdDo 1 (polEval a vs) (polEval b vs) := by
  obtain ⟨⟨ha, hb⟩, e, _⟩ := polAdd_fst h
  rw [polEval_yes (polOk_polAdd a b) hv, polEval_yes ha hv, polEval_yes hb hv, e, polRaw_cong (norm_cong _), polRaw_append, do_add (polRaw_word _ _) (polRaw_word _ _)]
theorem mul_eval {a b : List Mono} {vs : List Int} (h : (polMul a b).2 = true) (hv : wordsB vs = true) : polEval (polMul a b).1 vs = wrdDo 3 (polEval a vs) (polEval b vs) := by
  obtain ⟨⟨ha, hb⟩, e, _⟩ := polMul_fst h
  rw [polEval_yes (polOk_polMul a b) hv, polEval_yes ha hv, polEval_yes hb hv, e, polRaw_cong (norm_cong _), polRaw_prods, do_mul (polRaw_word _ _) (polRaw_word _ _)]
theorem scale_eval {a : List Mono} {n : Int} {vs : List Int} (ha : polOk a = true) (hn : wrdOk n = true) (hv : wordsB vs = true) : polEval (polScale a n) vs = wrdDo 3 n (polEval a vs) := by
  rw [polEval_yes (polOk_polScale a n) hv, polEval_yes ha hv, polScale_yes ha hn, polRaw_scl, do_mul hn (polRaw_word _ _)]
theorem add_undo {a : List Mono} (ha : polOk a = true) : polAdd a (polScale a 65535) = ([], true) := by
  rw [polAdd_yes ha (polOk_polScale _ _), polScale_yes ha (by decide)]
  have e : ([] : List Mono) = norm (a ++ scl 65535 a) := norm_unique Canon.nil fun φ => by
    rw [lin_append, ← wrap_add_right, scl_cong, wrap_add_right]
    simp only [lin]
    generalize lin φ a = x
    unfold wrap
    omega
  rw [← e]
  rfl
theorem scl_one {a : List Mono} (h : Canon a) : scl 1 a = a := canon_eq (scl_canon 1 h.chain) h fun φ => by rw [scl_cong, Int.one_mul]
theorem scl_zero (a : List Mono) : scl 0 a = [] := by
  unfold scl
  rw [List.filterMap_eq_nil_iff]
  intro m _
  rw [Int.mul_zero, if_neg (by decide)]
theorem scale_one {a : List Mono} (ha : polOk a = true) : polScale a 1 = a := by rw [polScale_yes ha (by decide), scl_one (polOk_canon ha)]
theorem scale_zero (a : List Mono) : polScale a 0 = [] := by
  unfold polScale
  split
  · exact scl_zero a
  · rfl
theorem polOk_polConst (n : Int) : polOk (polConst n) = true := by
  unfold polConst
  split
  · next h =>
    rw [polOk_iff]
    unfold inB at h
    simp at h
    refine ⟨⟨rfl, fun m hm => by rw [List.mem_singleton.1 hm]; exact h⟩, rfl, fun m hm => by rw [List.mem_singleton.1 hm]; exact ⟨rfl, fun _ h => by cases h⟩⟩
  · rfl
theorem const_mul {a : List Mono} {n : Int} (ha : polOk a = true) (hn : wrdOk n = true) : polMul a (polConst n) = (polScale a n, true) := by
  rw [polMul_yes ha (polOk_polConst n), polScale_yes ha hn]
  have e : scl n a = norm (prods a (polConst n)) := scl_norm n (polOk_canon ha).chain fun φ => by
    rw [prods_lin, ← lin_mul]
    refine lin_congr a fun m hm => ?_
    unfold polConst
    unfold wrdOk at hn
    simp at hn
    split
    · simp only [lin]
      rw [List.append_nil, srt_self (polOk_atoms ha hm).1]
      congr 1
      omega
    · next h =>
      unfold inB at h
      simp at h
      have : n = 0 := by omega
      subst this
      simp [lin]
  rw [← e, fitP_true (fitB_scl n ((polOk_iff a).1 ha).2.1)]
theorem scl_twice {a : List Mono} (h : Canon a) : norm (a ++ a) = scl 2 a := (scl_norm 2 h.chain fun φ => by rw [lin_append]; congr 1; omega).symm
theorem scl_thrice {a : List Mono} (h : Canon a) : norm (scl 2 a ++ a) = scl 3 a := (scl_norm 3 h.chain fun φ => by
  rw [lin_append, ← wrap_add_left, scl_cong, wrap_add_left]; congr 1; omega).symm
theorem add_twice {a : List Mono} (ha : polOk a = true) : polAdd a a = (polScale a 2, true) := by
  rw [polAdd_yes ha ha, polScale_yes ha (by decide), scl_twice (polOk_canon ha), fitP_true (fitB_scl 2 ((polOk_iff a).1 ha).2.1)]
theorem add_thrice {a : List Mono} (ha : polOk a = true) : polAdd (polScale a 2) a = (polScale a 3, true) := by
  rw [polAdd_yes (polOk_polScale a 2) ha, polScale_yes ha (by decide), polScale_yes ha (by decide), scl_thrice (polOk_canon ha), fitP_true (fitB_scl 3 ((polOk_iff a).1 ha).2.1)]
theorem fit_norm {l : List Mono} (h1 : l.length ≤ 12) (h2 : ∀ m ∈ l, m.2.length ≤ 4) : fitB (norm l) = true := by
  unfold fitB
  rw [Bool.and_eq_true]
  refine ⟨decide_eq_true (Nat.le_trans (norm_length l) h1), List.all_eq_true.2 fun m hm => ?_⟩
  obtain ⟨x, hx, e⟩ := norm_mem hm
  rw [e]
  exact decide_eq_true (h2 x hx)
theorem fit_add {a b : List Mono} (ha : polOk a = true) (hb : polOk b = true) (h : a.length + b.length ≤ 12) : (polAdd a b).2 = true := by
  rw [polAdd_yes ha hb, fitP_snd]
  refine fit_norm (by rw [List.length_append]; exact h) fun m hm => ?_
  rcases List.mem_append.1 hm with hm | hm
  · exact polOk_deg ha hm
  · exact polOk_deg hb hm
/-- How many atoms a part has at most. -/
def degP (p : List Mono) : Nat := p.foldl (fun n m => max n m.2.length) 0
theorem degP_go : ∀ (p : List Mono) (n : Nat), n ≤ p.foldl (fun n m => max n m.2.length) n ∧ ∀ m ∈ p, m.2.length ≤ p.foldl (fun n m => max n m.2.length) n
  | [], n => ⟨Nat.le_refl _, fun _ h => by cases h⟩
  | x :: p, n => by
    obtain ⟨h1, h2⟩ := degP_go p (max n x.2.length)
    rw [List.foldl_cons]
    refine ⟨by omega, fun m hm => ?_⟩
    rcases List.mem_cons.1 hm with rfl | hm
    · omega
    · exact h2 m hm
theorem degP_le {p : List Mono} {m : Mono} (h : m ∈ p) : m.2.length ≤ degP p := (degP_go p 0).2 m h
theorem fit_mul {a b : List Mono} (ha : polOk a = true) (hb : polOk b = true) (h : a.length * b.length ≤ 12) (hd : degP a + degP b ≤ 4) : (polMul a b).2 = true := by
  rw [polMul_yes ha hb, fitP_snd]
  refine fit_norm (by rw [prods_length]; exact h) fun m hm => ?_
  obtain ⟨x, hx, z, hz, e⟩ := prods_mem hm
  have h1 := degP_le hx
  have h2 := degP_le hz
  rw [e, srt_length, List.length_append]
  omega
theorem ring_add {a b c : List Mono} (h1 : (polAdd a b).2 = true) (h2 : (polAdd b c).2 = true) : polAdd (polAdd a b).1 c = polAdd a (polAdd b c).1 := by
  obtain ⟨⟨ha, hb⟩, e1, _⟩ := polAdd_fst h1
  obtain ⟨⟨_, hc⟩, e2, _⟩ := polAdd_fst h2
  rw [polAdd_yes (polOk_polAdd a b) hc, polAdd_yes ha (polOk_polAdd b c), e1, e2]
  congr 1
  refine norm_eq ?_
  have h3 : Cong (norm (a ++ b) ++ c) (a ++ b ++ c) := (norm_cong _).append (Cong.refl c)
  have h4 : Cong (a ++ norm (b ++ c)) (a ++ (b ++ c)) := (Cong.refl a).append (norm_cong _)
  rw [List.append_assoc] at h3
  exact h3.trans h4.symm
theorem ring_mul {a b c : List Mono} (h1 : (polAdd a b).2 = true) (h2 : (polMul c (polAdd a b).1).2 = true) (h3 : (polMul c a).2 = true) (h4 : (polMul c b).2 = true) :
    polAdd (polMul c a).1 (polMul c b).1 = polMul c (polAdd a b).1 := by
  obtain ⟨⟨ha, hb⟩, e1, _⟩ := polAdd_fst h1
  obtain ⟨⟨hc, hs⟩, e2, f2⟩ := polMul_fst h2
  obtain ⟨_, e3, _⟩ := polMul_fst h3
  obtain ⟨_, e4, _⟩ := polMul_fst h4
  rw [polAdd_yes (polOk_polMul c a) (polOk_polMul c b), polMul_yes hc hs, e3, e4]
  congr 1
  refine norm_eq ?_
  rw [e1]
  exact ((norm_cong _).append (norm_cong _)).trans ((prods_append c a b).symm.trans (prods_cong c (norm_cong _)).symm)

/-! ### how two sums stand -/
theorem cmpI_neg (a b : Int) : cmpI b a = -cmpI a b := by
  unfold cmpI
  by_cases h1 : a < b
  · rw [if_neg (by omega), if_pos h1, if_pos h1]; rfl
  · by_cases h2 : b < a
    · rw [if_pos h2, if_neg h1, if_pos h2]
    · rw [if_neg h2, if_neg h1, if_neg h1, if_neg h2]; rfl
theorem cmpI_eq {a b : Int} (h : cmpI a b = 0) : a = b := by
  unfold cmpI at h
  split at h
  · omega
  · split at h <;> omega
theorem orI_neg (a b : Int) : orI (-a) (-b) = -orI a b := by
  unfold orI
  by_cases h : a = 0
  · rw [if_pos (by omega), if_pos h]
  · rw [if_neg (by omega), if_neg h]
theorem monoOrd_neg (a b : Mono) : monoOrd b a = -monoOrd a b := by unfold monoOrd; rw [aOrd_neg a.2 b.2, cmpI_neg a.1 b.1, orI_neg]
theorem orI_eq {a b : Int} (h : orI a b = 0) : a = 0 ∧ b = 0 := by
  unfold orI at h
  split at h
  · exact ⟨by assumption, h⟩
  · exact absurd h (by assumption)
theorem monoOrd_eq {a b : Mono} (h : monoOrd a b = 0) : a = b := by
  obtain ⟨h1, h2⟩ := orI_eq h
  exact Prod.ext (cmpI_eq h2) (aOrd_eq h1)
theorem monoOrd_self (a : Mono) : monoOrd a a = 0 := by unfold monoOrd; rw [aOrd_self, cmpI_self]; rfl
theorem cmpI_small (a b : Int) : -1 ≤ cmpI a b ∧ cmpI a b ≤ 1 := by unfold cmpI; split <;> (try split) <;> omega
theorem lexO_small : ∀ a b : List Int, -1 ≤ lexO a b ∧ lexO a b ≤ 1
  | [], [] => by simp [lexO]
  | [], _ :: _ => by simp [lexO]
  | _ :: _, [] => by simp [lexO]
  | x :: a, y :: b => by
    have := lexO_small a b
    simp only [lexO]
    split <;> (try split) <;> omega
theorem aOrd_small (a b : List Int) : -1 ≤ aOrd a b ∧ aOrd a b ≤ 1 := by
  have := lexO_small a b
  unfold aOrd
  split <;> (try split) <;> omega
theorem orI_small {a b : Int} (h : -1 ≤ a ∧ a ≤ 1) (k : -1 ≤ b ∧ b ≤ 1) : -1 ≤ orI a b ∧ orI a b ≤ 1 := by unfold orI; split <;> assumption
theorem ordL_neg : ∀ p q : List Mono, ordL q p = -ordL p q
  | [], [] => rfl
  | [], _ :: _ => rfl
  | _ :: _, [] => rfl
  | a :: p, b :: q => by simp only [ordL]; rw [monoOrd_neg a b, ordL_neg p q, orI_neg]
theorem ordL_eq : ∀ {p q : List Mono}, p.length = q.length → ordL p q = 0 → p = q
  | [], [], _, _ => rfl
  | [], _ :: _, h, _ => by simp at h
  | _ :: _, [], h, _ => by simp at h
  | a :: p, b :: q, h, k => by
    simp only [ordL] at k
    obtain ⟨h1, h2⟩ := orI_eq k
    rw [monoOrd_eq h1, ordL_eq (by simpa using h) h2]
theorem ordL_self : ∀ p : List Mono, ordL p p = 0
  | [] => rfl
  | a :: p => by simp only [ordL]; rw [monoOrd_self, ordL_self p]; rfl
theorem ordL_small : ∀ p q : List Mono, -1 ≤ ordL p q ∧ ordL p q ≤ 1
  | [], [] => by simp [ordL]
  | [], _ :: _ => by simp [ordL]
  | _ :: _, [] => by simp [ordL]
  | a :: p, b :: q => by
    simp only [ordL]
    exact orI_small (orI_small (aOrd_small _ _) (cmpI_small _ _)) (ordL_small p q)
theorem polOrd_neg (p q : List Mono) : polOrd q p = -polOrd p q := by unfold polOrd; rw [cmpI_neg (p.length : Int) q.length, ordL_neg p q, orI_neg]
theorem polOrd_eq {p q : List Mono} (h : polOrd p q = 0) : p = q := by
  obtain ⟨h1, h2⟩ := orI_eq h
  exact ordL_eq (by have := cmpI_eq h1; omega) h2
theorem polOrd_self (p : List Mono) : polOrd p p = 0 := by unfold polOrd; rw [ordL_self, cmpI_self]; rfl
theorem polOrd_small (p q : List Mono) : -1 ≤ polOrd p q ∧ polOrd p q ≤ 1 := orI_small (cmpI_small _ _) (ordL_small p q)

/-! ### atoms below a number -/
theorem valAt_take {vs ys : List Int} {n : Nat} {k : Int} (h0 : 0 ≤ k) (hk : k < n) (hn : n ≤ vs.length) : valAt (vs.take n ++ ys) k = valAt vs k := by
  unfold valAt
  have h1 : k.toNat < n := by omega
  rw [List.getD_eq_getElem?_getD, List.getD_eq_getElem?_getD, List.getElem?_append_left (by rw [List.length_take]; omega), List.getElem?_take, if_pos h1]
theorem prodAt_take {vs ys : List Int} {n : Nat} (hn : n ≤ vs.length) : ∀ {l : List Int}, (∀ k ∈ l, 0 ≤ k ∧ k < n) → prodAt (vs.take n ++ ys) l = prodAt vs l
  | [], _ => rfl
  | k :: l, h => by
    simp only [prodAt]
    rw [valAt_take (h k List.mem_cons_self).1 (h k List.mem_cons_self).2 hn, prodAt_take hn fun x hx => h x (List.mem_cons_of_mem _ hx)]
theorem wordsB_append {xs ys : List Int} : wordsB (xs ++ ys) = (wordsB xs && wordsB ys) := by unfold wordsB; rw [List.all_append]
theorem wordsB_take {xs : List Int} (n : Nat) (h : wordsB xs = true) : wordsB (xs.take n) = true := by
  unfold wordsB at *
  rw [List.all_eq_true] at *
  exact fun x hx => h x (List.mem_of_mem_take hx)
theorem under_eval {p : List Mono} {vs : List Int} {n : Nat} (hp : polOk p = true) (hu : polUnder n p = true) (hn : n ≤ vs.length) (hv : wordsB vs = true) :
    polEval p (vs.take n ++ [1, 2, 3]) = polEval p vs := by
  have hv' : wordsB (vs.take n ++ [1, 2, 3]) = true := by rw [wordsB_append, wordsB_take n hv]; decide
  rw [polEval_yes hp hv', polEval_yes hp hv, polRaw_eq, polRaw_eq]
  refine lin_congr p fun m hm => ?_
  congr 1
  refine prodAt_take hn fun k hk => ⟨((polOk_atoms hp hm).2 k hk).1, ?_⟩
  have h1 := List.all_eq_true.1 hu m hm
  unfold underM at h1
  simp only [Bool.not_eq_true', List.any_eq_false, decide_eq_true_eq] at h1
  have := h1 k hk
  omega

/-! ### the word that a sum is -/
theorem polNum_const {c : Int} (h : wrdOk c = true) : polNum (polConst c) = (c, true) := by
  unfold wrdOk at h
  simp at h
  unfold polConst
  by_cases h1 : inB c 1 65535 = true
  · rw [if_pos h1]
    have h2 : polOk [(c, ([] : List Int))] = true := by
      have := polOk_polConst c
      unfold polConst at this
      rw [if_pos h1] at this
      exact this
    unfold polNum
    rw [h2]
  · rw [if_neg h1]
    unfold inB at h1
    simp at h1
    have : c = 0 := by omega
    subst this
    rfl
theorem polNum_eval {p : List Mono} {n : Int} (h : polNum p = (n, true)) {vs : List Int} (hv : wordsB vs = true) : polEval p vs = n := by
  cases hp : polOk p
  · rw [polNum_not hp] at h; cases h
  · rw [polEval_yes hp hv]
    match p, hp, h with
    | [], _, h =>
      rw [polNum_nil rfl] at h
      cases h
      rfl
    | [(c, [])], hp, h =>
      unfold polNum at h
      rw [hp] at h
      have hc := (polOk_canon hp).coef (c, []) List.mem_cons_self
      simp only at hc
      cases h
      rw [polRaw_eq]
      simp only [lin, prodAt]
      unfold wrap
      omega
    | [(c, a :: l)], hp, h =>
      unfold polNum at h
      rw [hp] at h
      cases h
    | a :: b :: l, _, h =>
      rw [polNum_many (by simp)] at h
      cases h
end Go.Proofs.Ytkdggfkigjpbfaa
