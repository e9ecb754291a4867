/- Parts in memory that are turned about: what a store of a part leaves. No program in sight. Conditions: none. -/
import Derived.Test.YtcgelcaepkakaaaS
import Derived.Test.YtcgelcaepkakaaaA
import Derived.Test.YtcgelcaepkakaaaH
namespace Go.Proofs.Ytcgelcaepkakaaa
open Go Go.RowKit
set_option linter.unusedVariables false
set_option linter.unusedSimpArgs false

theorem flat_put : ∀ {ms : List Mn} {j : Nat} {m : Mn}, j < ms.length → (ms.set j m).flatMap Mn.cells = ((ms.flatMap Mn.cells).set (j * 2) (.int .i64 m.c)).set (j * 2 + 1) (.slice m.A m.xs.length m.k)
  | [], j, m, h => by simp at h
  | a :: l, 0, m, h => by
    rw [List.set_cons_zero, List.flatMap_cons, List.flatMap_cons]
    rfl
  | a :: l, j + 1, m, h => by
    have := flat_put (ms := l) (j := j) (m := m) (by simpa using h)
    rw [List.set_cons_succ, List.flatMap_cons, List.flatMap_cons, this, show (j + 1) * 2 = j * 2 + 1 + 1 from by omega]
    rfl
section
variable {TM TI : TypeId} {w w' : World} {lo k g : Nat} {A : Option Addr}
theorem LM.form {ms : List Mn} (h : LM TM TI w lo A k ms) {j : Nat} {m : Mn} (hm : ms[j]? = some m) : ∃ g, A = some ⟨g, 0, none⟩ ∧ lo ≤ g ∧ g < w.heap.size ∧ w.cell? ⟨g, j * 2, none⟩ = some (.int .i64 m.c) ∧ w.cell? ⟨g, j * 2 + 1, none⟩ = some (.slice m.A m.xs.length m.k) ∧
    w.frozen? ⟨g, j * 2, none⟩ = false ∧ w.frozen? ⟨g, j * 2 + 1, none⟩ = false := by
  obtain ⟨hj, he⟩ := List.getElem?_eq_some_iff.1 hm
  have hl : ∀ a : Mn, a.cells.length = 2 := fun _ => rfl
  rcases h.1.2 with ⟨_, h0⟩ | ⟨g, cap, _, hv, _⟩
  · omega
  · injection hv with hA _ hc
    subst hA hc
    have hb := own_atB h.1 ⟨0, none, rfl⟩
    refine ⟨g, rfl, hb.1, hb.2, ?_, ?_, World.ownsRow.frozenAt h.1 _, World.ownsRow.frozenAt h.1 _⟩
    · rw [World.ownsRow.cellAt h.1 (j * 2) (by omega), show j * 2 = j * 2 + 0 from rfl, flat_at hl _ _ _ (by omega), hm]
      rfl
    · rw [World.ownsRow.cellAt h.1 (j * 2 + 1) (by omega), flat_at hl _ _ _ (by omega), hm]
      rfl
theorem RJ.set_own {n : Nat} {cs : List Value} {m : Mn} (hT : TM ≠ TI) (ho : w.ownsRow lo TM 2 (.slice (some ⟨g, 0, none⟩) n k) n cs) (h : RJ TI w m) (o : Nat) (v : Value) : RJ TI (w.setCell ⟨g, o, none⟩ v) m :=
  ⟨h.1.keepB fun b c fr hb => Below.heap_setCell _ _ _ _ (by
    rintro rfl
    exact own_other hT ho hb rfl), h.2⟩
/-- A part is stored in its place. -/
theorem LM.put {ms : List Mn} (hT : TM ≠ TI) (h : LM TM TI w lo (some ⟨g, 0, none⟩) k ms) {j : Nat} (hj : j < ms.length) {m : Mn} (hm : RJ TI w m) :
    LM TM TI ((w.setCell ⟨g, j * 2, none⟩ (.int .i64 m.c)).setCell ⟨g, j * 2 + 1, none⟩ (.slice m.A m.xs.length m.k)) lo (some ⟨g, 0, none⟩) k (ms.set j m) := by
  have h1 := (World.ownsRow.stored h.1 (j * 2) (.int .i64 m.c)).1
  have h2 := (World.ownsRow.stored h1 (j * 2 + 1) (.slice m.A m.xs.length m.k)).1
  refine ⟨?_, fun x hx => ?_⟩
  · rw [flat_put hj, List.length_set]
    exact h2
  · have hx' : RJ TI w x := by
      rcases List.mem_or_eq_of_mem_set hx with hx | rfl
      · exact h.2 x hx
      · exact hm
    exact (hx'.set_own hT h.1 _ _).set_own hT h1 _ _
/-- Two parts change places. -/
theorem LM.swap {ms : List Mn} (hT : TM ≠ TI) (h : LM TM TI w lo (some ⟨g, 0, none⟩) k ms) {i j : Nat} {x y : Mn} (hx : ms[i]? = some x) (hy : ms[j]? = some y) :
    LM TM TI ((((w.setCell ⟨g, i * 2, none⟩ (.int .i64 y.c)).setCell ⟨g, i * 2 + 1, none⟩ (.slice y.A y.xs.length y.k)).setCell ⟨g, j * 2, none⟩ (.int .i64 x.c)).setCell ⟨g, j * 2 + 1, none⟩ (.slice x.A x.xs.length x.k)) lo (some ⟨g, 0, none⟩) k (swp ms i j x y) := by
  obtain ⟨hi, _⟩ := List.getElem?_eq_some_iff.1 hx
  obtain ⟨hj, _⟩ := List.getElem?_eq_some_iff.1 hy
  have h1 := (World.ownsRow.stored h.1 (i * 2) (.int .i64 y.c)).1
  have hp := h.put hT hi (h.2 y (List.mem_of_getElem? hy))
  exact hp.put hT (by rw [List.length_set]; exact hj) (((h.2 x (List.mem_of_getElem? hx)).set_own hT h.1 _ _).set_own hT h1 _ _)
theorem LM.swap' {ms : List Mn} (hT : TM ≠ TI) (h : LM TM TI w lo (some ⟨g, 0, none⟩) k ms) {i j : Nat} {x y : Mn} (hx : ms[i]? = some x) (hy : ms[j]? = some y) (hij : i ≠ j) :
    LM TM TI ((((w.setCell ⟨g, j * 2, none⟩ (.int .i64 x.c)).setCell ⟨g, j * 2 + 1, none⟩ (.slice x.A x.xs.length x.k)).setCell ⟨g, i * 2, none⟩ (.int .i64 y.c)).setCell ⟨g, i * 2 + 1, none⟩ (.slice y.A y.xs.length y.k)) lo (some ⟨g, 0, none⟩) k (swp ms i j x y) := by
  have := h.swap hT hy hx
  unfold swp at this ⊢
  rwa [List.set_comm _ _ hij]
theorem Upd.four {B : Option Addr} {o1 o2 o3 o4 : Nat} {u1 u2 u3 u4 : Value} (hB : B = some ⟨g, 0, none⟩) : Upd (atB B) w ((((w.setCell ⟨g, o1, none⟩ u1).setCell ⟨g, o2, none⟩ u2).setCell ⟨g, o3, none⟩ u3).setCell ⟨g, o4, none⟩ u4) := by
  subst hB
  have hb : ∀ o, atB (some (⟨g, 0, none⟩ : Addr)) (⟨g, o, none⟩ : Addr).block := fun _ => ⟨0, none, rfl⟩
  exact ((((Upd.refl _ _).set (.inl (hb o1)) _).set (.inl (hb o2)) _).set (.inl (hb o3)) _).set (.inl (hb o4)) _
theorem LM.drewN {ms : List Mn} (h : LM TM TI w lo A k ms) (n : Nat) : LM TM TI (w.drewN n) lo A k ms := h.ext ((Ext.refl w).drewN n)
end
end Go.Proofs.Ytcgelcaepkakaaa
