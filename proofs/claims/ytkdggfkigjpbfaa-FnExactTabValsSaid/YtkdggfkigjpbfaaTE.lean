/- Whether atoms are the same, and whether an atom is well made: contracts of both sides. Conditions: lengths that a machine can hold. -/
import Derived.Test.YtkdggfkigjpbfaaTD
import Derived.Test.YtkdggfkigjpbfaaI2
namespace Go.Proofs.Ytkdggfkigjpbfaa
open Go Go.RowKit
set_option linter.unusedVariables false
set_option linter.unusedSimpArgs false

abbrev Atm := Int × Int × List (Int × List Int) × List (Int × List Int)
theorem polOrd_dec (p q : List Mono) : (polOrd p q == 0) = decide (p = q) := by
  by_cases h : p = q
  · subst h
    rw [polOrd_self]
    simp
  · have hn : polOrd p q ≠ 0 := fun e => h (polOrd_eq e)
    rw [decide_eq_false h, beq_eq_false_iff_ne]
    exact hn

theorem implSame (A A' : Option Addr) (k k' : Nat) (ms ms' : List Mn) (w : World) (h : RM 72 3 w A ms) (h' : RM 72 3 w A' ms') (hs : SzM ms) (hs' : SzM ms') {v : Bool} (hv : decide (ms.map Mn.dat = ms'.map Mn.dat) = v) :
    Calls Try.prog 64 #[.agg #[.slice A ms.length k], .agg #[.slice A' ms'.length k']] w fun e w' => e = .returned (.bool v) ∧ Ext w w' := by
  have HV := hid ((polOrd_dec (ms.map Mn.dat) (ms'.map Mn.dat)).trans hv)
  clear hv
  go_enter Try.func64, Try.ntmps64
  go_wp2_with fail
  refine (implPolOrder _ _ _ _ ms ms' _ (h.ext (by repeat (first | with_reducible assumption | with_reducible exact Ext.refl _ | with_reducible apply Ext.drewN | with_reducible apply Ext.drew | with_reducible apply Ext.alloc | with_reducible refine Ext.set ?_ (by first | (simp; done) | (simp; omega)) _ | with_reducible refine Ext.next ?_ (by with_reducible assumption)))) (h'.ext (by repeat (first | with_reducible assumption | with_reducible exact Ext.refl _ | with_reducible apply Ext.drewN | with_reducible apply Ext.drew | with_reducible apply Ext.alloc | with_reducible refine Ext.set ?_ (by first | (simp; done) | (simp; omega)) _ | with_reducible refine Ext.next ?_ (by with_reducible assumption)))) hs hs').mono ?_
  rintro e w1 ⟨rfl, hw1⟩
  go_wp2
  go_ret
  exact ⟨ret_bool HV.out, (by repeat (first | with_reducible assumption | with_reducible exact Ext.refl _ | with_reducible apply Ext.drewN | with_reducible apply Ext.drew | with_reducible apply Ext.alloc | with_reducible refine Ext.set ?_ (by first | (simp; done) | (simp; omega)) _ | with_reducible refine Ext.next ?_ (by with_reducible assumption)))⟩
theorem specSame (A A' : Option Addr) (k k' : Nat) (ms ms' : List Mn) (w : World) (h : RM 72 3 w A ms) (h' : RM 72 3 w A' ms') (hs : SzM ms) (hs' : SzM ms') {v : Int} (hv : polOrd (ms.map Mn.dat) (ms'.map Mn.dat) = v) :
    Calls Try.prog 38 #[.agg #[.slice A ms.length k], .agg #[.slice A' ms'.length k']] w fun e w' => e = .returned (.int .i64 v) ∧ Ext w w' := by
  subst hv
  exact specPolOrder A A' k k' ms ms' w h h' hs hs'
theorem polOrd_v {p q : List Mono} : (p = q → polOrd p q = 0) ∧ (p ≠ q → (polOrd p q == 0) = false) := ⟨fun e => by rw [e]; exact polOrd_self q, fun e => by rw [polOrd_dec]; exact decide_eq_false e⟩

set_option maxHeartbeats 1000000 in
theorem implAtmSame (t t' : Tn) (w : World) (h : RM 72 3 w t.A1 t.xs ∧ RM 72 3 w t.A2 t.ys) (h' : RM 72 3 w t'.A1 t'.xs ∧ RM 72 3 w t'.A2 t'.ys) (s : SzM t.xs ∧ SzM t.ys) (s' : SzM t'.xs ∧ SzM t'.ys) :
    Calls Try.prog 47 #[t.val, t'.val] w fun e w' => e = .returned (.bool (decide (t.dat = t'.dat))) ∧ Ext w w' := by
  obtain ⟨kd, kn, A1, k1, xs, A2, k2, ys⟩ := t
  obtain ⟨kd', kn', A1', k1', xs', A2', k2', ys'⟩ := t'
  obtain ⟨h1, h2⟩ := h
  obtain ⟨h1', h2'⟩ := h'
  obtain ⟨s1, s2⟩ := s
  obtain ⟨s1', s2'⟩ := s'
  unfold Tn.val
  simp only at h1 h2 h1' h2' s1 s2 s1' s2' ⊢
  cases c0 : (kd == kd')
  · have E := hid (show decide (Tn.dat ⟨kd, kn, A1, k1, xs, A2, k2, ys⟩ = Tn.dat ⟨kd', kn', A1', k1', xs', A2', k2', ys'⟩) = false from decide_eq_false fun e => by
      unfold Tn.dat at e
      simp only [Prod.mk.injEq] at e
      rw [e.1] at c0
      simp at c0)
    go_enter Try.func47, Try.ntmps47
    go_wp2
    go_ret
    exact ⟨ret_bool E.out.symm, (by repeat (first | with_reducible assumption | with_reducible exact Ext.refl _ | with_reducible apply Ext.drewN | with_reducible apply Ext.drew | with_reducible apply Ext.alloc | with_reducible refine Ext.set ?_ (by first | (simp; done) | (simp; omega)) _ | with_reducible refine Ext.next ?_ (by with_reducible assumption)))⟩
  cases c1 : (kn == kn')
  · have E := hid (show decide (Tn.dat ⟨kd, kn, A1, k1, xs, A2, k2, ys⟩ = Tn.dat ⟨kd', kn', A1', k1', xs', A2', k2', ys'⟩) = false from decide_eq_false fun e => by
      unfold Tn.dat at e
      simp only [Prod.mk.injEq] at e
      rw [e.2.1] at c1
      simp at c1)
    go_enter Try.func47, Try.ntmps47
    go_wp2
    go_ret
    exact ⟨ret_bool E.out.symm, (by repeat (first | with_reducible assumption | with_reducible exact Ext.refl _ | with_reducible apply Ext.drewN | with_reducible apply Ext.drew | with_reducible apply Ext.alloc | with_reducible refine Ext.set ?_ (by first | (simp; done) | (simp; omega)) _ | with_reducible refine Ext.next ?_ (by with_reducible assumption)))⟩
  by_cases c2 : xs.map Mn.dat = xs'.map Mn.dat
  rotate_left
  · have E := hid (show decide (Tn.dat ⟨kd, kn, A1, k1, xs, A2, k2, ys⟩ = Tn.dat ⟨kd', kn', A1', k1', xs', A2', k2', ys'⟩) = false from decide_eq_false fun e => by
      unfold Tn.dat at e
      simp only [Prod.mk.injEq] at e
      exact c2 e.2.2.1)
    have C2 := hid (decide_eq_false c2)
    clear c2
    go_enter Try.func47, Try.ntmps47
    go_wp2_with fail
    refine (implSame _ _ _ _ xs xs' _ (h1.ext (by repeat (first | with_reducible assumption | with_reducible exact Ext.refl _ | with_reducible apply Ext.drewN | with_reducible apply Ext.drew | with_reducible apply Ext.alloc | with_reducible refine Ext.set ?_ (by first | (simp; done) | (simp; omega)) _ | with_reducible refine Ext.next ?_ (by with_reducible assumption)))) (h1'.ext (by repeat (first | with_reducible assumption | with_reducible exact Ext.refl _ | with_reducible apply Ext.drewN | with_reducible apply Ext.drew | with_reducible apply Ext.alloc | with_reducible refine Ext.set ?_ (by first | (simp; done) | (simp; omega)) _ | with_reducible refine Ext.next ?_ (by with_reducible assumption)))) s1 s1' C2.out).mono ?_
    rintro e w1 ⟨rfl, hw1⟩
    go_wp2
    go_ret
    exact ⟨ret_bool E.out.symm, (by repeat (first | with_reducible assumption | with_reducible exact Ext.refl _ | with_reducible apply Ext.drewN | with_reducible apply Ext.drew | with_reducible apply Ext.alloc | with_reducible refine Ext.set ?_ (by first | (simp; done) | (simp; omega)) _ | with_reducible refine Ext.next ?_ (by with_reducible assumption)))⟩
  by_cases c3 : ys.map Mn.dat = ys'.map Mn.dat
  · have E := hid (show decide (Tn.dat ⟨kd, kn, A1, k1, xs, A2, k2, ys⟩ = Tn.dat ⟨kd', kn', A1', k1', xs', A2', k2', ys'⟩) = true from decide_eq_true (by unfold Tn.dat; simp only [Prod.mk.injEq]; exact ⟨by simpa using c0, by simpa using c1, c2, c3⟩))
    have C2 := hid (decide_eq_true c2)
    have C3 := hid (decide_eq_true c3)
    clear c2 c3
    go_enter Try.func47, Try.ntmps47
    go_wp2_with fail
    refine (implSame _ _ _ _ xs xs' _ (h1.ext (by repeat (first | with_reducible assumption | with_reducible exact Ext.refl _ | with_reducible apply Ext.drewN | with_reducible apply Ext.drew | with_reducible apply Ext.alloc | with_reducible refine Ext.set ?_ (by first | (simp; done) | (simp; omega)) _ | with_reducible refine Ext.next ?_ (by with_reducible assumption)))) (h1'.ext (by repeat (first | with_reducible assumption | with_reducible exact Ext.refl _ | with_reducible apply Ext.drewN | with_reducible apply Ext.drew | with_reducible apply Ext.alloc | with_reducible refine Ext.set ?_ (by first | (simp; done) | (simp; omega)) _ | with_reducible refine Ext.next ?_ (by with_reducible assumption)))) s1 s1' C2.out).mono ?_
    rintro e w1 ⟨rfl, hw1⟩
    obtain ⟨hc1, hf1⟩ := bcell_ hw1
    have hz1 : w.heap.size + 1 < w1.heap.size := by have := hw1.size; simp at this; omega
    have hx1 : w.heap.size < w1.heap.size := by omega
    go_wp2_with fail
    refine (implSame _ _ _ _ ys ys' _ (h2.ext (by repeat (first | with_reducible assumption | with_reducible exact Ext.refl _ | with_reducible apply Ext.drewN | with_reducible apply Ext.drew | with_reducible apply Ext.alloc | with_reducible refine Ext.set ?_ (by first | (simp; done) | (simp; omega)) _ | with_reducible refine Ext.next ?_ (by with_reducible assumption)))) (h2'.ext (by repeat (first | with_reducible assumption | with_reducible exact Ext.refl _ | with_reducible apply Ext.drewN | with_reducible apply Ext.drew | with_reducible apply Ext.alloc | with_reducible refine Ext.set ?_ (by first | (simp; done) | (simp; omega)) _ | with_reducible refine Ext.next ?_ (by with_reducible assumption)))) s2 s2' C3.out).mono ?_
    rintro e w2 ⟨rfl, hw2⟩
    go_wp2
    go_ret
    exact ⟨ret_bool E.out.symm, (by repeat (first | with_reducible assumption | with_reducible exact Ext.refl _ | with_reducible apply Ext.drewN | with_reducible apply Ext.drew | with_reducible apply Ext.alloc | with_reducible refine Ext.set ?_ (by first | (simp; done) | (simp; omega)) _ | with_reducible refine Ext.next ?_ (by with_reducible assumption)))⟩
  · have E := hid (show decide (Tn.dat ⟨kd, kn, A1, k1, xs, A2, k2, ys⟩ = Tn.dat ⟨kd', kn', A1', k1', xs', A2', k2', ys'⟩) = false from decide_eq_false fun e => by
      unfold Tn.dat at e
      simp only [Prod.mk.injEq] at e
      exact c3 e.2.2.2)
    have C2 := hid (decide_eq_true c2)
    have C3 := hid (decide_eq_false c3)
    clear c2 c3
    go_enter Try.func47, Try.ntmps47
    go_wp2_with fail
    refine (implSame _ _ _ _ xs xs' _ (h1.ext (by repeat (first | with_reducible assumption | with_reducible exact Ext.refl _ | with_reducible apply Ext.drewN | with_reducible apply Ext.drew | with_reducible apply Ext.alloc | with_reducible refine Ext.set ?_ (by first | (simp; done) | (simp; omega)) _ | with_reducible refine Ext.next ?_ (by with_reducible assumption)))) (h1'.ext (by repeat (first | with_reducible assumption | with_reducible exact Ext.refl _ | with_reducible apply Ext.drewN | with_reducible apply Ext.drew | with_reducible apply Ext.alloc | with_reducible refine Ext.set ?_ (by first | (simp; done) | (simp; omega)) _ | with_reducible refine Ext.next ?_ (by with_reducible assumption)))) s1 s1' C2.out).mono ?_
    rintro e w1 ⟨rfl, hw1⟩
    obtain ⟨hc1, hf1⟩ := bcell_ hw1
    have hz1 : w.heap.size + 1 < w1.heap.size := by have := hw1.size; simp at this; omega
    have hx1 : w.heap.size < w1.heap.size := by omega
    go_wp2_with fail
    refine (implSame _ _ _ _ ys ys' _ (h2.ext (by repeat (first | with_reducible assumption | with_reducible exact Ext.refl _ | with_reducible apply Ext.drewN | with_reducible apply Ext.drew | with_reducible apply Ext.alloc | with_reducible refine Ext.set ?_ (by first | (simp; done) | (simp; omega)) _ | with_reducible refine Ext.next ?_ (by with_reducible assumption)))) (h2'.ext (by repeat (first | with_reducible assumption | with_reducible exact Ext.refl _ | with_reducible apply Ext.drewN | with_reducible apply Ext.drew | with_reducible apply Ext.alloc | with_reducible refine Ext.set ?_ (by first | (simp; done) | (simp; omega)) _ | with_reducible refine Ext.next ?_ (by with_reducible assumption)))) s2 s2' C3.out).mono ?_
    rintro e w2 ⟨rfl, hw2⟩
    go_wp2
    go_ret
    exact ⟨ret_bool E.out.symm, (by repeat (first | with_reducible assumption | with_reducible exact Ext.refl _ | with_reducible apply Ext.drewN | with_reducible apply Ext.drew | with_reducible apply Ext.alloc | with_reducible refine Ext.set ?_ (by first | (simp; done) | (simp; omega)) _ | with_reducible refine Ext.next ?_ (by with_reducible assumption)))⟩

set_option maxHeartbeats 1000000 in
theorem specAtmSame (t t' : Tn) (w : World) (h : RM 72 3 w t.A1 t.xs ∧ RM 72 3 w t.A2 t.ys) (h' : RM 72 3 w t'.A1 t'.xs ∧ RM 72 3 w t'.A2 t'.ys) (s : SzM t.xs ∧ SzM t.ys) (s' : SzM t'.xs ∧ SzM t'.ys) :
    Calls Try.prog 19 #[t.val, t'.val] w fun e w' => e = .returned (.bool (decide (t.dat = t'.dat))) ∧ Ext w w' := by
  obtain ⟨kd, kn, A1, k1, xs, A2, k2, ys⟩ := t
  obtain ⟨kd', kn', A1', k1', xs', A2', k2', ys'⟩ := t'
  obtain ⟨h1, h2⟩ := h
  obtain ⟨h1', h2'⟩ := h'
  obtain ⟨s1, s2⟩ := s
  obtain ⟨s1', s2'⟩ := s'
  unfold Tn.val
  simp only at h1 h2 h1' h2' s1 s2 s1' s2' ⊢
  cases c0 : (kd == kd')
  · have E := hid (show decide (Tn.dat ⟨kd, kn, A1, k1, xs, A2, k2, ys⟩ = Tn.dat ⟨kd', kn', A1', k1', xs', A2', k2', ys'⟩) = false from decide_eq_false fun e => by
      unfold Tn.dat at e
      simp only [Prod.mk.injEq] at e
      rw [e.1] at c0
      simp at c0)
    go_enter Try.func19, Try.ntmps19
    go_wp2
    go_ret
    exact ⟨ret_bool E.out.symm, (by repeat (first | with_reducible assumption | with_reducible exact Ext.refl _ | with_reducible apply Ext.drewN | with_reducible apply Ext.drew | with_reducible apply Ext.alloc | with_reducible refine Ext.set ?_ (by first | (simp; done) | (simp; omega)) _ | with_reducible refine Ext.next ?_ (by with_reducible assumption)))⟩
  cases c1 : (kn == kn')
  · have E := hid (show decide (Tn.dat ⟨kd, kn, A1, k1, xs, A2, k2, ys⟩ = Tn.dat ⟨kd', kn', A1', k1', xs', A2', k2', ys'⟩) = false from decide_eq_false fun e => by
      unfold Tn.dat at e
      simp only [Prod.mk.injEq] at e
      rw [e.2.1] at c1
      simp at c1)
    go_enter Try.func19, Try.ntmps19
    go_wp2
    go_ret
    exact ⟨ret_bool E.out.symm, (by repeat (first | with_reducible assumption | with_reducible exact Ext.refl _ | with_reducible apply Ext.drewN | with_reducible apply Ext.drew | with_reducible apply Ext.alloc | with_reducible refine Ext.set ?_ (by first | (simp; done) | (simp; omega)) _ | with_reducible refine Ext.next ?_ (by with_reducible assumption)))⟩
  obtain ⟨u, hu⟩ : ∃ u, polOrd (xs.map Mn.dat) (xs'.map Mn.dat) = u := ⟨_, rfl⟩
  obtain ⟨v, hv⟩ : ∃ v, polOrd (ys.map Mn.dat) (ys'.map Mn.dat) = v := ⟨_, rfl⟩
  have HU := hid hu
  have HV := hid hv
  by_cases c2 : xs.map Mn.dat = xs'.map Mn.dat
  rotate_left
  · have E := hid (show decide (Tn.dat ⟨kd, kn, A1, k1, xs, A2, k2, ys⟩ = Tn.dat ⟨kd', kn', A1', k1', xs', A2', k2', ys'⟩) = false from decide_eq_false fun e => by
      unfold Tn.dat at e
      simp only [Prod.mk.injEq] at e
      exact c2 e.2.2.1)
    have C2 := polOrd_v.2 c2
    rw [hu] at C2
    clear c2 hu hv
    go_enter Try.func19, Try.ntmps19
    go_wp2_with fail
    refine (specSame _ _ _ _ xs xs' _ (h1.ext (by repeat (first | with_reducible assumption | with_reducible exact Ext.refl _ | with_reducible apply Ext.drewN | with_reducible apply Ext.drew | with_reducible apply Ext.alloc | with_reducible refine Ext.set ?_ (by first | (simp; done) | (simp; omega)) _ | with_reducible refine Ext.next ?_ (by with_reducible assumption)))) (h1'.ext (by repeat (first | with_reducible assumption | with_reducible exact Ext.refl _ | with_reducible apply Ext.drewN | with_reducible apply Ext.drew | with_reducible apply Ext.alloc | with_reducible refine Ext.set ?_ (by first | (simp; done) | (simp; omega)) _ | with_reducible refine Ext.next ?_ (by with_reducible assumption)))) s1 s1' HU.out).mono ?_
    rintro e w1 ⟨rfl, hw1⟩
    go_wp2
    go_ret
    exact ⟨ret_bool E.out.symm, (by repeat (first | with_reducible assumption | with_reducible exact Ext.refl _ | with_reducible apply Ext.drewN | with_reducible apply Ext.drew | with_reducible apply Ext.alloc | with_reducible refine Ext.set ?_ (by first | (simp; done) | (simp; omega)) _ | with_reducible refine Ext.next ?_ (by with_reducible assumption)))⟩
  obtain rfl : u = 0 := by rw [← hu]; exact polOrd_v.1 c2
  by_cases c3 : ys.map Mn.dat = ys'.map Mn.dat
  · have E := hid (show decide (Tn.dat ⟨kd, kn, A1, k1, xs, A2, k2, ys⟩ = Tn.dat ⟨kd', kn', A1', k1', xs', A2', k2', ys'⟩) = true from decide_eq_true (by unfold Tn.dat; simp only [Prod.mk.injEq]; exact ⟨by simpa using c0, by simpa using c1, c2, c3⟩))
    obtain rfl : v = 0 := by rw [← hv]; exact polOrd_v.1 c3
    clear c2 c3 hu hv
    go_enter Try.func19, Try.ntmps19
    go_wp2_with fail
    refine (specSame _ _ _ _ xs xs' _ (h1.ext (by repeat (first | with_reducible assumption | with_reducible exact Ext.refl _ | with_reducible apply Ext.drewN | with_reducible apply Ext.drew | with_reducible apply Ext.alloc | with_reducible refine Ext.set ?_ (by first | (simp; done) | (simp; omega)) _ | with_reducible refine Ext.next ?_ (by with_reducible assumption)))) (h1'.ext (by repeat (first | with_reducible assumption | with_reducible exact Ext.refl _ | with_reducible apply Ext.drewN | with_reducible apply Ext.drew | with_reducible apply Ext.alloc | with_reducible refine Ext.set ?_ (by first | (simp; done) | (simp; omega)) _ | with_reducible refine Ext.next ?_ (by with_reducible assumption)))) s1 s1' HU.out).mono ?_
    rintro e w1 ⟨rfl, hw1⟩
    obtain ⟨hc1, hf1⟩ := bcell_ hw1
    have hz1 : w.heap.size + 1 < w1.heap.size := by have := hw1.size; simp at this; omega
    have hx1 : w.heap.size < w1.heap.size := by omega
    go_wp2_with fail
    refine (specSame _ _ _ _ ys ys' _ (h2.ext (by repeat (first | with_reducible assumption | with_reducible exact Ext.refl _ | with_reducible apply Ext.drewN | with_reducible apply Ext.drew | with_reducible apply Ext.alloc | with_reducible refine Ext.set ?_ (by first | (simp; done) | (simp; omega)) _ | with_reducible refine Ext.next ?_ (by with_reducible assumption)))) (h2'.ext (by repeat (first | with_reducible assumption | with_reducible exact Ext.refl _ | with_reducible apply Ext.drewN | with_reducible apply Ext.drew | with_reducible apply Ext.alloc | with_reducible refine Ext.set ?_ (by first | (simp; done) | (simp; omega)) _ | with_reducible refine Ext.next ?_ (by with_reducible assumption)))) s2 s2' HV.out).mono ?_
    rintro e w2 ⟨rfl, hw2⟩
    go_wp2
    go_ret
    exact ⟨ret_bool E.out.symm, (by repeat (first | with_reducible assumption | with_reducible exact Ext.refl _ | with_reducible apply Ext.drewN | with_reducible apply Ext.drew | with_reducible apply Ext.alloc | with_reducible refine Ext.set ?_ (by first | (simp; done) | (simp; omega)) _ | with_reducible refine Ext.next ?_ (by with_reducible assumption)))⟩
  · have E := hid (show decide (Tn.dat ⟨kd, kn, A1, k1, xs, A2, k2, ys⟩ = Tn.dat ⟨kd', kn', A1', k1', xs', A2', k2', ys'⟩) = false from decide_eq_false fun e => by
      unfold Tn.dat at e
      simp only [Prod.mk.injEq] at e
      exact c3 e.2.2.2)
    have C3 := polOrd_v.2 c3
    rw [hv] at C3
    clear c2 c3 hu hv
    go_enter Try.func19, Try.ntmps19
    go_wp2_with fail
    refine (specSame _ _ _ _ xs xs' _ (h1.ext (by repeat (first | with_reducible assumption | with_reducible exact Ext.refl _ | with_reducible apply Ext.drewN | with_reducible apply Ext.drew | with_reducible apply Ext.alloc | with_reducible refine Ext.set ?_ (by first | (simp; done) | (simp; omega)) _ | with_reducible refine Ext.next ?_ (by with_reducible assumption)))) (h1'.ext (by repeat (first | with_reducible assumption | with_reducible exact Ext.refl _ | with_reducible apply Ext.drewN | with_reducible apply Ext.drew | with_reducible apply Ext.alloc | with_reducible refine Ext.set ?_ (by first | (simp; done) | (simp; omega)) _ | with_reducible refine Ext.next ?_ (by with_reducible assumption)))) s1 s1' HU.out).mono ?_
    rintro e w1 ⟨rfl, hw1⟩
    obtain ⟨hc1, hf1⟩ := bcell_ hw1
    have hz1 : w.heap.size + 1 < w1.heap.size := by have := hw1.size; simp at this; omega
    have hx1 : w.heap.size < w1.heap.size := by omega
    go_wp2_with fail
    refine (specSame _ _ _ _ ys ys' _ (h2.ext (by repeat (first | with_reducible assumption | with_reducible exact Ext.refl _ | with_reducible apply Ext.drewN | with_reducible apply Ext.drew | with_reducible apply Ext.alloc | with_reducible refine Ext.set ?_ (by first | (simp; done) | (simp; omega)) _ | with_reducible refine Ext.next ?_ (by with_reducible assumption)))) (h2'.ext (by repeat (first | with_reducible assumption | with_reducible exact Ext.refl _ | with_reducible apply Ext.drewN | with_reducible apply Ext.drew | with_reducible apply Ext.alloc | with_reducible refine Ext.set ?_ (by first | (simp; done) | (simp; omega)) _ | with_reducible refine Ext.next ?_ (by with_reducible assumption)))) s2 s2' HV.out).mono ?_
    rintro e w2 ⟨rfl, hw2⟩
    go_wp2
    go_ret
    exact ⟨ret_bool E.out.symm, (by repeat (first | with_reducible assumption | with_reducible exact Ext.refl _ | with_reducible apply Ext.drewN | with_reducible apply Ext.drew | with_reducible apply Ext.alloc | with_reducible refine Ext.set ?_ (by first | (simp; done) | (simp; omega)) _ | with_reducible refine Ext.next ?_ (by with_reducible assumption)))⟩
end Go.Proofs.Ytkdggfkigjpbfaa
