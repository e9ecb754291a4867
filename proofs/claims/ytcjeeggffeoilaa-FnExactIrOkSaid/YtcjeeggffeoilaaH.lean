/- Contracts of what marks new memory and of what looks whether the marks held (the laws' own helpers). Conditions: lengths that a machine can hold. -/
import Derived.Test.YtcjeeggffeoilaaM
import Derived.Test.YtcjeeggffeoilaaProg
import Derived.Laws.OwnMore
namespace Go.Proofs.Ytcjeeggffeoilaa
open Go Go.RowKit
set_option linter.unusedVariables false
set_option linter.unusedSimpArgs false

/-- The marks of n ints from k on. -/
def markI (k : Int) (n : Nat) : List Int := (List.range n).map fun i : Nat => k + i
theorem markI_length (k : Int) (n : Nat) : (markI k n).length = n := by simp [markI]
theorem markI_at {k : Int} {n i : Nat} (h : i < n) : (markI k n)[i]? = some (k + i) := by simp [markI, h]
theorem markI_of {k : Int} {n : Nat} {ys : List Int} (hl : ys.length = n) (h : ∀ t, t < n → ys[t]? = some (k + t)) : ys = markI k n := by
  apply List.ext_getElem?
  intro i
  by_cases hi : i < n
  · rw [h i hi, markI_at hi]
  · rw [List.getElem?_eq_none (by omega), List.getElem?_eq_none (by rw [markI_length]; omega)]
def Mn.mk_ (k : Int) (m : Mn) : Mn := ⟨k, m.A, m.k, markI (k + 1) m.xs.length⟩
def markM : Int → List Mn → List Mn
  | _, [] => []
  | k, m :: l => m.mk_ k :: markM (k + 1 + m.xs.length) l
theorem markM_length : ∀ (k : Int) (ms : List Mn), (markM k ms).length = ms.length
  | _, [] => rfl
  | k, m :: l => by simp [markM, markM_length _ l]
theorem totM_cons (m : Mn) (l : List Mn) : totM (m :: l) = 1 + m.xs.length + totM l := by simp [totM]; omega
theorem totM_snoc (m : Mn) (l : List Mn) : totM (l ++ [m]) = totM l + 1 + m.xs.length := by simp [totM]; omega
theorem totM_take {ms : List Mn} {j : Nat} {m : Mn} (h : ms[j]? = some m) : totM (ms.take (j + 1)) = totM (ms.take j) + 1 + m.xs.length := by
  rw [List.take_add_one, h]
  exact totM_snoc m _
theorem totM_le : ∀ (ms : List Mn) (j : Nat), totM (ms.take j) ≤ totM ms
  | [], j => by simp
  | m :: l, 0 => by simp [totM]
  | m :: l, j + 1 => by
    have := totM_le l j
    rw [List.take_succ_cons, totM_cons, totM_cons]
    omega
theorem markM_at : ∀ {ms : List Mn} {k : Int} {j : Nat} {m : Mn}, ms[j]? = some m → (markM k ms)[j]? = some (m.mk_ (k + totM (ms.take j)))
  | [], k, j, m, h => by simp at h
  | a :: l, k, 0, m, h => by
    simp at h
    subst h
    simp [markM, totM]
  | a :: l, k, j + 1, m, h => by
    have h' : l[j]? = some m := by simpa using h
    show (markM (k + 1 + a.xs.length) l)[j]? = _
    rw [markM_at h', List.take_succ_cons, totM_cons]
    congr 2
    omega
theorem markM_of {ms ys : List Mn} {k : Int} (hl : ys.length = ms.length) (h : ∀ (t : Nat) (m : Mn), ms[t]? = some m → ys[t]? = some (m.mk_ (k + totM (ms.take t)))) : ys = markM k ms := by
  apply List.ext_getElem?
  intro i
  by_cases hi : i < ms.length
  · rw [h i _ (List.getElem?_eq_getElem hi), markM_at (List.getElem?_eq_getElem hi)]
  · rw [List.getElem?_eq_none (by omega), List.getElem?_eq_none (by rw [markM_length]; omega)]

section
variable {TM TI : TypeId} {w w' : World} {lo k g : Nat} {A : Option Addr}
theorem OI.form {ys : List Int} (h : OI TI w lo A k ys) {j : Nat} (hj : j < ys.length) : ∃ g, A = some ⟨g, 0, none⟩ ∧ g < w.heap.size ∧ (∃ u, w.cell? ⟨g, j, none⟩ = some (.int .i64 u)) ∧ w.frozen? ⟨g, j, none⟩ = false := by
  rcases h.2 with ⟨_, h0⟩ | ⟨g, cap, _, hv, _⟩
  · omega
  · injection hv with hA _ hc
    subst hA hc
    refine ⟨g, rfl, (own_atB h ⟨0, none, rfl⟩).2, ?_, World.ownsRow.frozenAt h j⟩
    rw [World.ownsRow.cellAt h j (by omega)]
    exact ⟨ys[j], by simp [List.getElem?_eq_getElem hj]⟩
theorem OI.store {ys : List Int} (h : OI TI w lo (some ⟨g, 0, none⟩) k ys) (j : Nat) (v : Int) : OI TI (w.setCell ⟨g, j, none⟩ (.int .i64 v)) lo (some ⟨g, 0, none⟩) k (ys.set j v) := by
  have := (World.ownsRow.stored h j (.int .i64 v)).1
  unfold OI
  rw [List.length_set, List.map_set]
  exact this
theorem OM.form {ms : List Mn} (h : OM TM TI w lo A k ms) {j : Nat} {m : Mn} (hm : ms[j]? = some m) : ∃ g, A = some ⟨g, 0, none⟩ ∧ g < w.heap.size ∧ w.cell? ⟨g, j * 2, none⟩ = some (.int .i64 m.c) ∧ w.cell? ⟨g, j * 2 + 1, none⟩ = some (.slice m.A m.xs.length m.k) ∧ w.frozen? ⟨g, j * 2, none⟩ = false := by
  obtain ⟨hj, he⟩ := List.getElem?_eq_some_iff.1 hm
  have hl : ∀ a : Mn, a.cells.length = 2 := fun _ => rfl
  rcases h.1.2 with ⟨_, h0⟩ | ⟨g, cap, _, hv, _⟩
  · omega
  · injection hv with hA _ hc
    subst hA hc
    refine ⟨g, rfl, (own_atB h.1 ⟨0, none, rfl⟩).2, ?_, ?_, World.ownsRow.frozenAt h.1 _⟩
    · rw [World.ownsRow.cellAt h.1 (j * 2) (by omega), show j * 2 = j * 2 + 0 from rfl, flat_at hl _ _ _ (by omega), hm]
      rfl
    · rw [World.ownsRow.cellAt h.1 (j * 2 + 1) (by omega), flat_at hl _ _ _ (by omega), hm]
      rfl
theorem OM.ne {ms : List Mn} (hT : TM ≠ TI) (h : OM TM TI w lo A k ms) {m : Mn} (hm : m ∈ ms) {b : Nat} (hb : atB A b) : ¬ atB m.A b := by
  rintro ⟨o', s', hx⟩
  obtain ⟨o, s, rfl⟩ := hb
  rcases h.1.2 with ⟨e, _⟩ | ⟨g, cap, cur, e, _, hg, _⟩
  · injection e with e
    cases e
  · injection e with e
    injection e with e
    injection e with e _ _
    subst e
    rcases (h.2.1 m hm).2 with ⟨e, _⟩ | ⟨g', cap', cur', e, _, hg', _⟩
    · rw [hx] at e
      injection e with e
      cases e
    · rw [hx] at e
      injection e with e
      injection e with e
      injection e with e _ _
      subst e
      rw [hg] at hg'
      injection hg' with hg'
      injection hg' with _ e2 _
      exact hT e2
theorem flat_set : ∀ {ms : List Mn} {j : Nat} {m m' : Mn}, ms[j]? = some m → m'.cells = [.int .i64 m'.c, .slice m.A m.xs.length m.k] → (ms.set j m').flatMap Mn.cells = (ms.flatMap Mn.cells).set (j * 2) (.int .i64 m'.c)
  | [], j, m, m', h, _ => by simp at h
  | a :: l, 0, m, m', h, h' => by
    simp at h
    subst h
    rw [List.set_cons_zero, List.flatMap_cons, List.flatMap_cons, h']
    rfl
  | a :: l, j + 1, m, m', h, h' => by
    have := flat_set (ms := l) (j := j) (m := m) (m' := m') (by simpa using h) h'
    rw [List.set_cons_succ, List.flatMap_cons, List.flatMap_cons, this, show (j + 1) * 2 = j * 2 + 1 + 1 from by omega]
    rfl
theorem pair_set {ms : List Mn} {j : Nat} {m m' : Mn} (hm : ms[j]? = some m) (hA : m'.A = m.A) (h : ms.Pairwise fun a b => ∀ x, atB a.A x → ¬ atB b.A x) : (ms.set j m').Pairwise fun a b => ∀ x, atB a.A x → ¬ atB b.A x := by
  have e : (ms.set j m').map Mn.A = ms.map Mn.A := by
    rw [List.map_set, hA]
    apply List.ext_getElem?
    intro i
    rw [List.getElem?_set]
    split
    · next hi =>
      subst hi
      rw [List.getElem?_map, hm]
      simp
      exact (List.getElem?_eq_some_iff.1 hm).1
    · rfl
  have h1 : (ms.map Mn.A).Pairwise fun a b => ∀ x, atB a x → ¬ atB b x := List.pairwise_map.2 h
  rw [← e] at h1
  exact List.pairwise_map.1 h1
theorem OM.putC {ms : List Mn} (hT : TM ≠ TI) (h : OM TM TI w lo (some ⟨g, 0, none⟩) k ms) {j : Nat} {m : Mn} (hm : ms[j]? = some m) (v : Int) :
    OM TM TI (w.setCell ⟨g, j * 2, none⟩ (.int .i64 v)) lo (some ⟨g, 0, none⟩) k (ms.set j ⟨v, m.A, m.k, m.xs⟩) := by
  have hup : Upd (fun b => b = g) w (w.setCell ⟨g, j * 2, none⟩ (.int .i64 v)) := Upd.set (S := fun b => b = g) (Upd.refl _ _) (p := ⟨g, j * 2, none⟩) (.inl rfl) _
  refine ⟨?_, fun x hx => ?_, pair_set hm rfl h.2.2⟩
  · rw [flat_set (m' := ⟨v, m.A, m.k, m.xs⟩) hm rfl, List.length_set]
    exact (World.ownsRow.stored h.1 _ _).1
  · rcases List.mem_or_eq_of_mem_set hx with hx | rfl
    · refine own_upd' (h.2.1 x hx) hup ?_
      rintro b hb rfl
      exact h.ne hT hx ⟨0, none, rfl⟩ hb
    · refine own_upd' (h.2.1 m (List.mem_of_getElem? hm)) hup ?_
      rintro b hb rfl
      exact h.ne hT (List.mem_of_getElem? hm) ⟨0, none, rfl⟩ hb
theorem flat_same : ∀ {ms : List Mn} {j : Nat} {m m' : Mn}, ms[j]? = some m → m'.cells = m.cells → (ms.set j m').flatMap Mn.cells = ms.flatMap Mn.cells
  | [], j, m, m', h, _ => by simp at h
  | a :: l, 0, m, m', h, h' => by
    simp at h
    subst h
    rw [List.set_cons_zero, List.flatMap_cons, List.flatMap_cons, h']
  | a :: l, j + 1, m, m', h, h' => by
    have := flat_same (ms := l) (j := j) (m := m) (m' := m') (by simpa using h) h'
    rw [List.set_cons_succ, List.flatMap_cons, List.flatMap_cons, this]
theorem OM.putX {ms : List Mn} (hT : TM ≠ TI) (h : OM TM TI w lo A k ms) {j : Nat} {m : Mn} {ys : List Int} (hm : ms[j]? = some m) (he : Upd (atB m.A) w w') (hl : ys.length = m.xs.length) (ho : OI TI w' lo m.A m.k ys) :
    OM TM TI w' lo A k (ms.set j ⟨m.c, m.A, m.k, ys⟩) := by
  refine ⟨?_, fun x hx => ?_, pair_set hm rfl h.2.2⟩
  · rw [flat_same (m' := ⟨m.c, m.A, m.k, ys⟩) hm (by simp only [Mn.cells, hl]), List.length_set]
    exact own_upd' h.1 he fun b hb hb' => h.ne hT (List.mem_of_getElem? hm) hb hb'
  · obtain ⟨i, hi, rfl⟩ := List.getElem_of_mem hx
    have hi' : i < ms.length := by rwa [List.length_set] at hi
    rw [List.getElem_set]
    split
    · exact ho
    · next hne =>
      refine own_upd' (h.2.1 ms[i] (List.getElem_mem hi')) he fun b hb hb' => ?_
      obtain ⟨hj, hme⟩ := List.getElem?_eq_some_iff.1 hm
      subst hme
      have hp := List.pairwise_iff_getElem.1 h.2.2
      rcases Nat.lt_or_ge i j with hij | hij
      · exact hp i j hi' hj hij b hb hb'
      · exact hp j i hj hi' (by omega) b hb' hb
end

theorem markIntS (A : Option Addr) (kc lo : Nat) (xs : List Int) (k : Int) (w : World) (h : OI 3 w lo A kc xs) (h0 : 0 ≤ k) (h1 : k + xs.length < 4611686018427387904) :
    Calls Try.prog 16 #[.slice A xs.length kc, .int .i64 k] w fun e w' => e = .returned (.int .i64 (k + xs.length)) ∧ OI 3 w' lo A kc (markI k xs.length) ∧ Upd (atB A) w w' := by
  go_enter Try.func16, Try.ntmps16
  go_wp2
  go_loopw [1, 5] (fun v i wr => ∃ (j : Nat) (ys : List Int), j ≤ xs.length ∧ i = .int .i64 j ∧ v = .int .i64 (k + j) ∧ ys.length = xs.length ∧ OI 3 wr lo A kc ys ∧ (∀ t, t < j → ys[t]? = some (k + t)) ∧ Upd (atB A) w wr) (fun _ i _ => xs.length - (intOf i).toNat)
  case atStart => exact ⟨0, xs, Nat.zero_le _, rfl, by simp, rfl, h, fun t ht => absurd ht (by omega), Upd.refl _ _⟩
  case round =>
    obtain ⟨j, ys, hj, rfl, rfl, hl, ho, hall, hup⟩ := hrel
    by_cases hlt : j < xs.length
    · obtain ⟨g, rfl, hg, ⟨u, hc⟩, hf⟩ := ho.form (j := j) (by omega)
      have HO := hid (ho.store j (k + j))
      have HU := hid (hup.set (p := ⟨g, j, none⟩) (.inl ⟨0, none, rfl⟩) (.int .i64 (k + j)))
      have HA := hid hall
      have HL := hid hl
      clear ho hup hall h hl
      go_wp2
      go_roundw
      case rel =>
        refine ⟨j + 1, ys.set j (k + j), by omega, by go_num, by go_num, by rw [List.length_set]; exact HL.out, HO.out, fun t ht => ?_, HU.out⟩
        rw [List.getElem?_set]
        split
        · next e => subst e; simp [HL.out, hlt]
        · exact HA.out t (by omega)
      case measure => simp [intOf]; omega
    · obtain rfl : j = xs.length := by omega
      have e := markI_of hl hall
      subst e
      have HO := hid ho
      have HU := hid hup
      clear ho hup h hall
      go_wp2
      go_ret
      exact ⟨rfl, HO.out, HU.out⟩

theorem heldIntS (A : Option Addr) (kc n : Nat) (k : Int) (w : World) (h : RI 3 w A (markI k n)) (h0 : 0 ≤ k) (h1 : k + n < 4611686018427387904) :
    Calls Try.prog 33 #[.slice A n kc, .int .i64 k] w fun e w' => e = .returned (.int .i64 (k + n)) ∧ w = w' := by
  go_enter Try.func33, Try.ntmps33
  go_wp2
  go_loop [1, 5] (fun v i => ∃ j : Nat, j ≤ n ∧ i = .int .i64 j ∧ v = .int .i64 (k + j)) (fun _ i => n - (intOf i).toNat)
  case atStart => exact ⟨0, Nat.zero_le _, rfl, by simp⟩
  case round =>
    obtain ⟨j, hj, rfl, rfl⟩ := hrel
    by_cases hlt : j < n
    · obtain ⟨b, o, x, rfl, hb, hx, hcell⟩ := h.at_ (i := j) (by rw [markI_length]; exact hlt)
      rw [markI_at hlt] at hx
      injection hx with hx
      subst hx
      clear h
      go_wp2
      go_round
      case rel => exact ⟨j + 1, by omega, by go_num, by go_num⟩
      case measure => simp [intOf]; omega
    · obtain rfl : j = n := by omega
      go_wp2
      go_ret
      exact ⟨rfl, rfl⟩







