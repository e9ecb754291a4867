/- Whether an atom is well made: contracts of both sides. Conditions: lengths that a machine can hold. -/
import Derived.Test.YtkdggfkigjpbfaaTE
namespace Go.Proofs.Ytkdggfkigjpbfaa
open Go Go.RowKit
set_option linter.unusedVariables false
set_option linter.unusedSimpArgs false

def bareB (a : Atm) : Bool := (a.2.2.1.length + a.2.2.2.length == 0)
def atomOk (n : Int) (a : Atm) : Bool :=
  if a.1 = 4 then inB a.2.1 1 5 && (polOk a.2.2.1 && (polOk a.2.2.2 && (polUnder n a.2.2.1 && polUnder n a.2.2.2)))
  else bareB a && (if a.1 = 1 then inB a.2.1 0 3 else if a.1 = 2 ∨ a.1 = 3 then inB a.2.1 0 199 else false)
section
variable {kd kn n : Int} {A1 A2 : Option Addr} {k1 k2 : Nat} {xs ys : List Mn}
theorem atomOk_4 : atomOk n (Tn.dat ⟨4, kn, A1, k1, xs, A2, k2, ys⟩) = (inB kn 1 5 && (polOk (xs.map Mn.dat) && (polOk (ys.map Mn.dat) && (polUnder n (xs.map Mn.dat) && polUnder n (ys.map Mn.dat))))) := rfl
theorem atomOk_no (h : kd ≠ 4) (hb : 0 < xs.length + ys.length) : atomOk n (Tn.dat ⟨kd, kn, A1, k1, xs, A2, k2, ys⟩) = false := by
  unfold atomOk Tn.dat bareB
  simp only [if_neg h, List.length_map]
  rw [show (xs.length + ys.length == 0) = false by rw [beq_eq_false_iff_ne]; omega]
  rfl
theorem atomOk_1 : atomOk n (Tn.dat ⟨1, kn, A1, k1, [], A2, k2, []⟩) = inB kn 0 3 := by simp [atomOk, Tn.dat, bareB]
theorem atomOk_2 : atomOk n (Tn.dat ⟨2, kn, A1, k1, [], A2, k2, []⟩) = inB kn 0 199 := by simp [atomOk, Tn.dat, bareB]
theorem atomOk_3 : atomOk n (Tn.dat ⟨3, kn, A1, k1, [], A2, k2, []⟩) = inB kn 0 199 := by simp [atomOk, Tn.dat, bareB]
theorem atomOk_else (h1 : kd ≠ 1) (h2 : kd ≠ 2) (h3 : kd ≠ 3) (h4 : kd ≠ 4) : atomOk n (Tn.dat ⟨kd, kn, A1, k1, xs, A2, k2, ys⟩) = false := by simp [atomOk, Tn.dat, h1, h2, h3, h4]
end

set_option maxHeartbeats 1000000 in
theorem implAtom (t : Tn) (n : Int) (w : World) (h : RM 72 3 w t.A1 t.xs ∧ RM 72 3 w t.A2 t.ys) (s : SzM t.xs ∧ SzM t.ys) :
    Calls Try.prog 21 #[t.val, .int .i64 n] w fun e w' => e = .returned (.bool (atomOk n t.dat)) ∧ Ext w w' := by
  obtain ⟨kd, kn, A1, k1, xs, A2, k2, ys⟩ := t
  obtain ⟨h1, h2⟩ := h
  obtain ⟨s1, s2⟩ := s
  unfold Tn.val
  simp only at h1 h2 s1 s2 ⊢
  have hn1 := s1.1
  have hn2 := s2.1
  by_cases k4 : kd = 4
  · obtain rfl := k4
    have E := hid (atomOk_4 (kn := kn) (n := n) (A1 := A1) (A2 := A2) (k1 := k1) (k2 := k2) (xs := xs) (ys := ys))
    cases c1 : inB kn 1 5
    · have C1 := hid c1
      have E1 := hid (E.out.trans (by rw [c1] <;> rfl))
      clear c1 E
      go_enter Try.func21, Try.ntmps21
      go_wp2_with fail
      refine (implIsOp _ _).mono ?_
      rintro e w' ⟨rfl, rfl⟩
      rw [C1.out]
      go_wp2
      go_ret
      exact ⟨ret_bool E1.out.symm, (by repeat (first | with_reducible assumption | with_reducible exact Ext.refl _ | with_reducible apply Ext.drewN | with_reducible apply Ext.drew | with_reducible apply Ext.alloc | with_reducible refine Ext.set ?_ (by first | (simp; done) | (simp; omega)) _ | with_reducible refine Ext.next ?_ (by with_reducible assumption)))⟩
    cases c2 : polOk (xs.map Mn.dat)
    · have C1 := hid c1
      have C2 := hid c2
      have E1 := hid (E.out.trans (by rw [c1, c2] <;> rfl))
      clear c1 c2 E
      go_enter Try.func21, Try.ntmps21
      go_wp2_with fail
      refine (implIsOp _ _).mono ?_
      rintro e w' ⟨rfl, rfl⟩
      rw [C1.out]
      go_wp2_with fail
      refine (implPolOk _ _ xs _ (h1.ext (by repeat (first | with_reducible assumption | with_reducible exact Ext.refl _ | with_reducible apply Ext.drewN | with_reducible apply Ext.drew | with_reducible apply Ext.alloc | with_reducible refine Ext.set ?_ (by first | (simp; done) | (simp; omega)) _ | with_reducible refine Ext.next ?_ (by with_reducible assumption)))) s1).mono ?_
      rintro e w2 ⟨rfl, hw2⟩
      rw [C2.out]
      obtain ⟨hc2, hf2⟩ := bcell_ hw2
      have hz2 : w.heap.size < w2.heap.size := by have := hw2.size; simp at this; omega
      go_wp2
      go_ret
      exact ⟨ret_bool E1.out.symm, (by repeat (first | with_reducible assumption | with_reducible exact Ext.refl _ | with_reducible apply Ext.drewN | with_reducible apply Ext.drew | with_reducible apply Ext.alloc | with_reducible refine Ext.set ?_ (by first | (simp; done) | (simp; omega)) _ | with_reducible refine Ext.next ?_ (by with_reducible assumption)))⟩
    cases c3 : polOk (ys.map Mn.dat)
    · have C1 := hid c1
      have C2 := hid c2
      have C3 := hid c3
      have E1 := hid (E.out.trans (by rw [c1, c2, c3] <;> rfl))
      clear c1 c2 c3 E
      go_enter Try.func21, Try.ntmps21
      go_wp2_with fail
      refine (implIsOp _ _).mono ?_
      rintro e w' ⟨rfl, rfl⟩
      rw [C1.out]
      go_wp2_with fail
      refine (implPolOk _ _ xs _ (h1.ext (by repeat (first | with_reducible assumption | with_reducible exact Ext.refl _ | with_reducible apply Ext.drewN | with_reducible apply Ext.drew | with_reducible apply Ext.alloc | with_reducible refine Ext.set ?_ (by first | (simp; done) | (simp; omega)) _ | with_reducible refine Ext.next ?_ (by with_reducible assumption)))) s1).mono ?_
      rintro e w2 ⟨rfl, hw2⟩
      rw [C2.out]
      obtain ⟨hc2, hf2⟩ := bcell_ hw2
      have hz2 : w.heap.size < w2.heap.size := by have := hw2.size; simp at this; omega
      go_wp2_with fail
      refine (implPolOk _ _ ys _ (h2.ext (by repeat (first | with_reducible assumption | with_reducible exact Ext.refl _ | with_reducible apply Ext.drewN | with_reducible apply Ext.drew | with_reducible apply Ext.alloc | with_reducible refine Ext.set ?_ (by first | (simp; done) | (simp; omega)) _ | with_reducible refine Ext.next ?_ (by with_reducible assumption)))) s2).mono ?_
      rintro e w3 ⟨rfl, hw3⟩
      rw [C3.out]
      obtain ⟨hc3, hf3⟩ := bcell_ hw3
      have hz3 := lt_ext hw3 hz2
      go_wp2
      go_ret
      exact ⟨ret_bool E1.out.symm, (by repeat (first | with_reducible assumption | with_reducible exact Ext.refl _ | with_reducible apply Ext.drewN | with_reducible apply Ext.drew | with_reducible apply Ext.alloc | with_reducible refine Ext.set ?_ (by first | (simp; done) | (simp; omega)) _ | with_reducible refine Ext.next ?_ (by with_reducible assumption)))⟩
    cases c4 : polUnder n (xs.map Mn.dat)
    · have C1 := hid c1
      have C2 := hid c2
      have C3 := hid c3
      have C4 := hid c4
      have E1 := hid (E.out.trans (by rw [c1, c2, c3, c4] <;> rfl))
      clear c1 c2 c3 c4 E
      go_enter Try.func21, Try.ntmps21
      go_wp2_with fail
      refine (implIsOp _ _).mono ?_
      rintro e w' ⟨rfl, rfl⟩
      rw [C1.out]
      go_wp2_with fail
      refine (implPolOk _ _ xs _ (h1.ext (by repeat (first | with_reducible assumption | with_reducible exact Ext.refl _ | with_reducible apply Ext.drewN | with_reducible apply Ext.drew | with_reducible apply Ext.alloc | with_reducible refine Ext.set ?_ (by first | (simp; done) | (simp; omega)) _ | with_reducible refine Ext.next ?_ (by with_reducible assumption)))) s1).mono ?_
      rintro e w2 ⟨rfl, hw2⟩
      rw [C2.out]
      obtain ⟨hc2, hf2⟩ := bcell_ hw2
      have hz2 : w.heap.size < w2.heap.size := by have := hw2.size; simp at this; omega
      go_wp2_with fail
      refine (implPolOk _ _ ys _ (h2.ext (by repeat (first | with_reducible assumption | with_reducible exact Ext.refl _ | with_reducible apply Ext.drewN | with_reducible apply Ext.drew | with_reducible apply Ext.alloc | with_reducible refine Ext.set ?_ (by first | (simp; done) | (simp; omega)) _ | with_reducible refine Ext.next ?_ (by with_reducible assumption)))) s2).mono ?_
      rintro e w3 ⟨rfl, hw3⟩
      rw [C3.out]
      obtain ⟨hc3, hf3⟩ := bcell_ hw3
      have hz3 := lt_ext hw3 hz2
      go_wp2_with fail
      refine (implPolUnder _ _ xs _ _ (h1.ext (by repeat (first | with_reducible assumption | with_reducible exact Ext.refl _ | with_reducible apply Ext.drewN | with_reducible apply Ext.drew | with_reducible apply Ext.alloc | with_reducible refine Ext.set ?_ (by first | (simp; done) | (simp; omega)) _ | with_reducible refine Ext.next ?_ (by with_reducible assumption)))) s1).mono ?_
      rintro e w4 ⟨rfl, hw4⟩
      rw [C4.out]
      obtain ⟨hc4, hf4⟩ := bcell_ hw4
      have hz4 := lt_ext hw4 hz3
      go_wp2
      go_ret
      exact ⟨ret_bool E1.out.symm, (by repeat (first | with_reducible assumption | with_reducible exact Ext.refl _ | with_reducible apply Ext.drewN | with_reducible apply Ext.drew | with_reducible apply Ext.alloc | with_reducible refine Ext.set ?_ (by first | (simp; done) | (simp; omega)) _ | with_reducible refine Ext.next ?_ (by with_reducible assumption)))⟩
    · have C1 := hid c1
      have C2 := hid c2
      have C3 := hid c3
      have C4 := hid c4
      have E1 := hid (E.out.trans (b := _) (c := polUnder n (ys.map Mn.dat)) (by rw [c1, c2, c3, c4] <;> rfl))
      clear c1 c2 c3 c4 E
      go_enter Try.func21, Try.ntmps21
      go_wp2_with fail
      refine (implIsOp _ _).mono ?_
      rintro e w' ⟨rfl, rfl⟩
      rw [C1.out]
      go_wp2_with fail
      refine (implPolOk _ _ xs _ (h1.ext (by repeat (first | with_reducible assumption | with_reducible exact Ext.refl _ | with_reducible apply Ext.drewN | with_reducible apply Ext.drew | with_reducible apply Ext.alloc | with_reducible refine Ext.set ?_ (by first | (simp; done) | (simp; omega)) _ | with_reducible refine Ext.next ?_ (by with_reducible assumption)))) s1).mono ?_
      rintro e w2 ⟨rfl, hw2⟩
      rw [C2.out]
      obtain ⟨hc2, hf2⟩ := bcell_ hw2
      have hz2 : w.heap.size < w2.heap.size := by have := hw2.size; simp at this; omega
      go_wp2_with fail
      refine (implPolOk _ _ ys _ (h2.ext (by repeat (first | with_reducible assumption | with_reducible exact Ext.refl _ | with_reducible apply Ext.drewN | with_reducible apply Ext.drew | with_reducible apply Ext.alloc | with_reducible refine Ext.set ?_ (by first | (simp; done) | (simp; omega)) _ | with_reducible refine Ext.next ?_ (by with_reducible assumption)))) s2).mono ?_
      rintro e w3 ⟨rfl, hw3⟩
      rw [C3.out]
      obtain ⟨hc3, hf3⟩ := bcell_ hw3
      have hz3 := lt_ext hw3 hz2
      go_wp2_with fail
      refine (implPolUnder _ _ xs _ _ (h1.ext (by repeat (first | with_reducible assumption | with_reducible exact Ext.refl _ | with_reducible apply Ext.drewN | with_reducible apply Ext.drew | with_reducible apply Ext.alloc | with_reducible refine Ext.set ?_ (by first | (simp; done) | (simp; omega)) _ | with_reducible refine Ext.next ?_ (by with_reducible assumption)))) s1).mono ?_
      rintro e w4 ⟨rfl, hw4⟩
      rw [C4.out]
      obtain ⟨hc4, hf4⟩ := bcell_ hw4
      have hz4 := lt_ext hw4 hz3
      go_wp2_with fail
      refine (implPolUnder _ _ ys _ _ (h2.ext (by repeat (first | with_reducible assumption | with_reducible exact Ext.refl _ | with_reducible apply Ext.drewN | with_reducible apply Ext.drew | with_reducible apply Ext.alloc | with_reducible refine Ext.set ?_ (by first | (simp; done) | (simp; omega)) _ | with_reducible refine Ext.next ?_ (by with_reducible assumption)))) s2).mono ?_
      rintro e w5 ⟨rfl, hw5⟩
      go_wp2
      go_ret
      exact ⟨ret_bool E1.out.symm, (by repeat (first | with_reducible assumption | with_reducible exact Ext.refl _ | with_reducible apply Ext.drewN | with_reducible apply Ext.drew | with_reducible apply Ext.alloc | with_reducible refine Ext.set ?_ (by first | (simp; done) | (simp; omega)) _ | with_reducible refine Ext.next ?_ (by with_reducible assumption)))⟩
  by_cases hb : 0 < xs.length + ys.length
  · have E := hid (atomOk_no (kn := kn) (n := n) (A1 := A1) (A2 := A2) (k1 := k1) (k2 := k2) k4 hb)
    have K4 : (kd == 4) = false := by rw [beq_eq_false_iff_ne]; exact k4
    have hb' : decide ((0 : Int) < (xs.length : Int) + (ys.length : Int)) = true := decide_eq_true (by omega)
    clear k4 hb
    go_enter Try.func21, Try.ntmps21
    go_wp2
    go_ret
    exact ⟨ret_bool E.out.symm, (by repeat (first | with_reducible assumption | with_reducible exact Ext.refl _ | with_reducible apply Ext.drewN | with_reducible apply Ext.drew | with_reducible apply Ext.alloc | with_reducible refine Ext.set ?_ (by first | (simp; done) | (simp; omega)) _ | with_reducible refine Ext.next ?_ (by with_reducible assumption)))⟩
  obtain rfl : xs = [] := List.length_eq_zero_iff.1 (by omega)
  obtain rfl : ys = [] := List.length_eq_zero_iff.1 (by omega)
  clear hb hn1 hn2
  simp only [List.length_nil]
  by_cases k1' : kd = 1
  · subst k1'
    cases c : inB kn 0 3
    all_goals
      have E := hid ((atomOk_1 (kn := kn) (n := n) (A1 := A1) (A2 := A2) (k1 := k1) (k2 := k2)).trans c)
      have C := hid c
      clear c k4
      go_enter Try.func21, Try.ntmps21
      go_wp2_with fail
      refine (implIsReg _ _).mono ?_
      rintro e w' ⟨rfl, rfl⟩
      rw [C.out]
      go_wp2
      go_ret
      exact ⟨ret_bool E.out.symm, (by repeat (first | with_reducible assumption | with_reducible exact Ext.refl _ | with_reducible apply Ext.drewN | with_reducible apply Ext.drew | with_reducible apply Ext.alloc | with_reducible refine Ext.set ?_ (by first | (simp; done) | (simp; omega)) _ | with_reducible refine Ext.next ?_ (by with_reducible assumption)))⟩
  by_cases k2' : kd = 2
  · subst k2'
    have E := hid (atomOk_2 (kn := kn) (n := n) (A1 := A1) (A2 := A2) (k1 := k1) (k2 := k2))
    clear k4 k1'
    go_enter Try.func21, Try.ntmps21
    go_wp2_with fail
    refine (implIn _ _ _ _).mono ?_
    rintro e w' ⟨rfl, rfl⟩
    go_wp2
    go_ret
    exact ⟨ret_bool E.out.symm, (by repeat (first | with_reducible assumption | with_reducible exact Ext.refl _ | with_reducible apply Ext.drewN | with_reducible apply Ext.drew | with_reducible apply Ext.alloc | with_reducible refine Ext.set ?_ (by first | (simp; done) | (simp; omega)) _ | with_reducible refine Ext.next ?_ (by with_reducible assumption)))⟩
  by_cases k3' : kd = 3
  · subst k3'
    have E := hid (atomOk_3 (kn := kn) (n := n) (A1 := A1) (A2 := A2) (k1 := k1) (k2 := k2))
    clear k4 k1' k2'
    go_enter Try.func21, Try.ntmps21
    go_wp2_with fail
    refine (implIn _ _ _ _).mono ?_
    rintro e w' ⟨rfl, rfl⟩
    go_wp2
    go_ret
    exact ⟨ret_bool E.out.symm, (by repeat (first | with_reducible assumption | with_reducible exact Ext.refl _ | with_reducible apply Ext.drewN | with_reducible apply Ext.drew | with_reducible apply Ext.alloc | with_reducible refine Ext.set ?_ (by first | (simp; done) | (simp; omega)) _ | with_reducible refine Ext.next ?_ (by with_reducible assumption)))⟩
  · have E := hid (atomOk_else (kn := kn) (n := n) (A1 := A1) (A2 := A2) (k1 := k1) (k2 := k2) (xs := []) (ys := []) k1' k2' k3' k4)
    have K4 : (kd == 4) = false := by rw [beq_eq_false_iff_ne]; exact k4
    have K3 : (kd == 3) = false := by rw [beq_eq_false_iff_ne]; exact k3'
    have K2 : (kd == 2) = false := by rw [beq_eq_false_iff_ne]; exact k2'
    have K1 : (kd == 1) = false := by rw [beq_eq_false_iff_ne]; exact k1'
    clear k4 k1' k2' k3'
    go_enter Try.func21, Try.ntmps21
    go_wp2
    go_ret
    exact ⟨ret_bool E.out.symm, (by repeat (first | with_reducible assumption | with_reducible exact Ext.refl _ | with_reducible apply Ext.drewN | with_reducible apply Ext.drew | with_reducible apply Ext.alloc | with_reducible refine Ext.set ?_ (by first | (simp; done) | (simp; omega)) _ | with_reducible refine Ext.next ?_ (by with_reducible assumption)))⟩

theorem bare (t : Tn) (w : World) (s : SzM t.xs ∧ SzM t.ys) : Calls Try.prog 35 #[t.val] w fun e w' => e = .returned (.bool (bareB t.dat)) ∧ Ext w w' := by
  obtain ⟨kd, kn, A1, k1, xs, A2, k2, ys⟩ := t
  obtain ⟨s1, s2⟩ := s
  simp only at s1 s2
  have hn1 := s1.1
  have hn2 := s2.1
  have e0 : bareB (Tn.dat ⟨kd, kn, A1, k1, xs, A2, k2, ys⟩) = (xs.length + ys.length == 0) := by unfold bareB Tn.dat; simp only [List.length_map]
  unfold Tn.val
  simp only
  by_cases h1 : xs.length = 0
  · by_cases h2 : ys.length = 0
    · have E := hid (e0.trans (show _ = true by rw [h1, h2]; rfl))
      clear e0
      have b1 : ((xs.length : Int) == 0) = true := by rw [h1]; rfl
      have b2 : ((ys.length : Int) == 0) = true := by rw [h2]; rfl
      clear h1 h2
      go_enter Try.func35, Try.ntmps35
      go_wp2
      go_ret
      exact ⟨ret_bool E.out.symm, (by repeat (first | with_reducible assumption | with_reducible exact Ext.refl _ | with_reducible apply Ext.drewN | with_reducible apply Ext.drew | with_reducible apply Ext.alloc | with_reducible refine Ext.set ?_ (by first | (simp; done) | (simp; omega)) _ | with_reducible refine Ext.next ?_ (by with_reducible assumption)))⟩
    · have E := hid (e0.trans (show _ = false by rw [beq_eq_false_iff_ne]; omega))
      clear e0
      have b1 : ((xs.length : Int) == 0) = true := by rw [h1]; rfl
      have b2 : ((ys.length : Int) == 0) = false := by rw [beq_eq_false_iff_ne]; omega
      clear h1 h2
      go_enter Try.func35, Try.ntmps35
      go_wp2
      go_ret
      exact ⟨ret_bool E.out.symm, (by repeat (first | with_reducible assumption | with_reducible exact Ext.refl _ | with_reducible apply Ext.drewN | with_reducible apply Ext.drew | with_reducible apply Ext.alloc | with_reducible refine Ext.set ?_ (by first | (simp; done) | (simp; omega)) _ | with_reducible refine Ext.next ?_ (by with_reducible assumption)))⟩
  · have E := hid (e0.trans (show _ = false by rw [beq_eq_false_iff_ne]; omega))
    clear e0
    have b1 : ((xs.length : Int) == 0) = false := by rw [beq_eq_false_iff_ne]; omega
    clear h1
    go_enter Try.func35, Try.ntmps35
    go_wp2
    go_ret
    exact ⟨ret_bool E.out.symm, (by repeat (first | with_reducible assumption | with_reducible exact Ext.refl _ | with_reducible apply Ext.drewN | with_reducible apply Ext.drew | with_reducible apply Ext.alloc | with_reducible refine Ext.set ?_ (by first | (simp; done) | (simp; omega)) _ | with_reducible refine Ext.next ?_ (by with_reducible assumption)))⟩
theorem bare_v (t : Tn) (w : World) (s : SzM t.xs ∧ SzM t.ys) {v : Bool} (hv : bareB t.dat = v) : Calls Try.prog 35 #[t.val] w fun e w' => e = .returned (.bool v) ∧ Ext w w' := by
  subst hv
  exact bare t w s

set_option maxHeartbeats 1000000 in
theorem specAtom (t : Tn) (n : Int) (w : World) (h : RM 72 3 w t.A1 t.xs ∧ RM 72 3 w t.A2 t.ys) (s : SzM t.xs ∧ SzM t.ys) :
    Calls Try.prog 18 #[t.val, .int .i64 n] w fun e w' => e = .returned (.bool (atomOk n t.dat)) ∧ Ext w w' := by
  obtain ⟨kd, kn, A1, k1, xs, A2, k2, ys⟩ := t
  obtain ⟨h1, h2⟩ := h
  obtain ⟨s1, s2⟩ := s
  unfold Tn.val
  simp only at h1 h2 s1 s2 ⊢
  have hn1 := s1.1
  have hn2 := s2.1
  by_cases k4 : kd = 4
  · obtain rfl := k4
    have E := hid (atomOk_4 (kn := kn) (n := n) (A1 := A1) (A2 := A2) (k1 := k1) (k2 := k2) (xs := xs) (ys := ys))
    cases c1 : inB kn 1 5
    · have C1 := hid c1
      have E1 := hid (E.out.trans (by rw [c1] <;> rfl))
      clear c1 E
      go_enter Try.func18, Try.ntmps18
      go_wp2_with fail
      refine (specL1In _ _ _ _).mono ?_
      rintro e w' ⟨rfl, rfl⟩
      rw [C1.out]
      go_wp2
      go_ret
      exact ⟨ret_bool E1.out.symm, (by repeat (first | with_reducible assumption | with_reducible exact Ext.refl _ | with_reducible apply Ext.drewN | with_reducible apply Ext.drew | with_reducible apply Ext.alloc | with_reducible refine Ext.set ?_ (by first | (simp; done) | (simp; omega)) _ | with_reducible refine Ext.next ?_ (by with_reducible assumption)))⟩
    cases c2 : polOk (xs.map Mn.dat)
    · have C1 := hid c1
      have C2 := hid c2
      have E1 := hid (E.out.trans (by rw [c1, c2] <;> rfl))
      clear c1 c2 E
      go_enter Try.func18, Try.ntmps18
      go_wp2_with fail
      refine (specL1In _ _ _ _).mono ?_
      rintro e w' ⟨rfl, rfl⟩
      rw [C1.out]
      go_wp2_with fail
      refine (specPolOk _ _ xs _ (h1.ext (by repeat (first | with_reducible assumption | with_reducible exact Ext.refl _ | with_reducible apply Ext.drewN | with_reducible apply Ext.drew | with_reducible apply Ext.alloc | with_reducible refine Ext.set ?_ (by first | (simp; done) | (simp; omega)) _ | with_reducible refine Ext.next ?_ (by with_reducible assumption)))) s1).mono ?_
      rintro e w2 ⟨rfl, hw2⟩
      rw [C2.out]
      obtain ⟨hc2, hf2⟩ := bcell_ hw2
      have hz2 : w.heap.size < w2.heap.size := by have := hw2.size; simp at this; omega
      go_wp2
      go_ret
      exact ⟨ret_bool E1.out.symm, (by repeat (first | with_reducible assumption | with_reducible exact Ext.refl _ | with_reducible apply Ext.drewN | with_reducible apply Ext.drew | with_reducible apply Ext.alloc | with_reducible refine Ext.set ?_ (by first | (simp; done) | (simp; omega)) _ | with_reducible refine Ext.next ?_ (by with_reducible assumption)))⟩
    cases c3 : polOk (ys.map Mn.dat)
    · have C1 := hid c1
      have C2 := hid c2
      have C3 := hid c3
      have E1 := hid (E.out.trans (by rw [c1, c2, c3] <;> rfl))
      clear c1 c2 c3 E
      go_enter Try.func18, Try.ntmps18
      go_wp2_with fail
      refine (specL1In _ _ _ _).mono ?_
      rintro e w' ⟨rfl, rfl⟩
      rw [C1.out]
      go_wp2_with fail
      refine (specPolOk _ _ xs _ (h1.ext (by repeat (first | with_reducible assumption | with_reducible exact Ext.refl _ | with_reducible apply Ext.drewN | with_reducible apply Ext.drew | with_reducible apply Ext.alloc | with_reducible refine Ext.set ?_ (by first | (simp; done) | (simp; omega)) _ | with_reducible refine Ext.next ?_ (by with_reducible assumption)))) s1).mono ?_
      rintro e w2 ⟨rfl, hw2⟩
      rw [C2.out]
      obtain ⟨hc2, hf2⟩ := bcell_ hw2
      have hz2 : w.heap.size < w2.heap.size := by have := hw2.size; simp at this; omega
      go_wp2_with fail
      refine (specPolOk _ _ ys _ (h2.ext (by repeat (first | with_reducible assumption | with_reducible exact Ext.refl _ | with_reducible apply Ext.drewN | with_reducible apply Ext.drew | with_reducible apply Ext.alloc | with_reducible refine Ext.set ?_ (by first | (simp; done) | (simp; omega)) _ | with_reducible refine Ext.next ?_ (by with_reducible assumption)))) s2).mono ?_
      rintro e w3 ⟨rfl, hw3⟩
      rw [C3.out]
      obtain ⟨hc3, hf3⟩ := bcell_ hw3
      have hz3 := lt_ext hw3 hz2
      go_wp2
      go_ret
      exact ⟨ret_bool E1.out.symm, (by repeat (first | with_reducible assumption | with_reducible exact Ext.refl _ | with_reducible apply Ext.drewN | with_reducible apply Ext.drew | with_reducible apply Ext.alloc | with_reducible refine Ext.set ?_ (by first | (simp; done) | (simp; omega)) _ | with_reducible refine Ext.next ?_ (by with_reducible assumption)))⟩
    cases c4 : polUnder n (xs.map Mn.dat)
    · have C1 := hid c1
      have C2 := hid c2
      have C3 := hid c3
      have C4 := hid c4
      have E1 := hid (E.out.trans (by rw [c1, c2, c3, c4] <;> rfl))
      clear c1 c2 c3 c4 E
      go_enter Try.func18, Try.ntmps18
      go_wp2_with fail
      refine (specL1In _ _ _ _).mono ?_
      rintro e w' ⟨rfl, rfl⟩
      rw [C1.out]
      go_wp2_with fail
      refine (specPolOk _ _ xs _ (h1.ext (by repeat (first | with_reducible assumption | with_reducible exact Ext.refl _ | with_reducible apply Ext.drewN | with_reducible apply Ext.drew | with_reducible apply Ext.alloc | with_reducible refine Ext.set ?_ (by first | (simp; done) | (simp; omega)) _ | with_reducible refine Ext.next ?_ (by with_reducible assumption)))) s1).mono ?_
      rintro e w2 ⟨rfl, hw2⟩
      rw [C2.out]
      obtain ⟨hc2, hf2⟩ := bcell_ hw2
      have hz2 : w.heap.size < w2.heap.size := by have := hw2.size; simp at this; omega
      go_wp2_with fail
      refine (specPolOk _ _ ys _ (h2.ext (by repeat (first | with_reducible assumption | with_reducible exact Ext.refl _ | with_reducible apply Ext.drewN | with_reducible apply Ext.drew | with_reducible apply Ext.alloc | with_reducible refine Ext.set ?_ (by first | (simp; done) | (simp; omega)) _ | with_reducible refine Ext.next ?_ (by with_reducible assumption)))) s2).mono ?_
      rintro e w3 ⟨rfl, hw3⟩
      rw [C3.out]
      obtain ⟨hc3, hf3⟩ := bcell_ hw3
      have hz3 := lt_ext hw3 hz2
      go_wp2_with fail
      refine (specPolUnder _ _ xs _ _ (h1.ext (by repeat (first | with_reducible assumption | with_reducible exact Ext.refl _ | with_reducible apply Ext.drewN | with_reducible apply Ext.drew | with_reducible apply Ext.alloc | with_reducible refine Ext.set ?_ (by first | (simp; done) | (simp; omega)) _ | with_reducible refine Ext.next ?_ (by with_reducible assumption)))) s1).mono ?_
      rintro e w4 ⟨rfl, hw4⟩
      rw [C4.out]
      obtain ⟨hc4, hf4⟩ := bcell_ hw4
      have hz4 := lt_ext hw4 hz3
      go_wp2
      go_ret
      exact ⟨ret_bool E1.out.symm, (by repeat (first | with_reducible assumption | with_reducible exact Ext.refl _ | with_reducible apply Ext.drewN | with_reducible apply Ext.drew | with_reducible apply Ext.alloc | with_reducible refine Ext.set ?_ (by first | (simp; done) | (simp; omega)) _ | with_reducible refine Ext.next ?_ (by with_reducible assumption)))⟩
    · have C1 := hid c1
      have C2 := hid c2
      have C3 := hid c3
      have C4 := hid c4
      have E1 := hid (E.out.trans (b := _) (c := polUnder n (ys.map Mn.dat)) (by rw [c1, c2, c3, c4] <;> rfl))
      clear c1 c2 c3 c4 E
      go_enter Try.func18, Try.ntmps18
      go_wp2_with fail
      refine (specL1In _ _ _ _).mono ?_
      rintro e w' ⟨rfl, rfl⟩
      rw [C1.out]
      go_wp2_with fail
      refine (specPolOk _ _ xs _ (h1.ext (by repeat (first | with_reducible assumption | with_reducible exact Ext.refl _ | with_reducible apply Ext.drewN | with_reducible apply Ext.drew | with_reducible apply Ext.alloc | with_reducible refine Ext.set ?_ (by first | (simp; done) | (simp; omega)) _ | with_reducible refine Ext.next ?_ (by with_reducible assumption)))) s1).mono ?_
      rintro e w2 ⟨rfl, hw2⟩
      rw [C2.out]
      obtain ⟨hc2, hf2⟩ := bcell_ hw2
      have hz2 : w.heap.size < w2.heap.size := by have := hw2.size; simp at this; omega
      go_wp2_with fail
      refine (specPolOk _ _ ys _ (h2.ext (by repeat (first | with_reducible assumption | with_reducible exact Ext.refl _ | with_reducible apply Ext.drewN | with_reducible apply Ext.drew | with_reducible apply Ext.alloc | with_reducible refine Ext.set ?_ (by first | (simp; done) | (simp; omega)) _ | with_reducible refine Ext.next ?_ (by with_reducible assumption)))) s2).mono ?_
      rintro e w3 ⟨rfl, hw3⟩
      rw [C3.out]
      obtain ⟨hc3, hf3⟩ := bcell_ hw3
      have hz3 := lt_ext hw3 hz2
      go_wp2_with fail
      refine (specPolUnder _ _ xs _ _ (h1.ext (by repeat (first | with_reducible assumption | with_reducible exact Ext.refl _ | with_reducible apply Ext.drewN | with_reducible apply Ext.drew | with_reducible apply Ext.alloc | with_reducible refine Ext.set ?_ (by first | (simp; done) | (simp; omega)) _ | with_reducible refine Ext.next ?_ (by with_reducible assumption)))) s1).mono ?_
      rintro e w4 ⟨rfl, hw4⟩
      rw [C4.out]
      obtain ⟨hc4, hf4⟩ := bcell_ hw4
      have hz4 := lt_ext hw4 hz3
      go_wp2_with fail
      refine (specPolUnder _ _ ys _ _ (h2.ext (by repeat (first | with_reducible assumption | with_reducible exact Ext.refl _ | with_reducible apply Ext.drewN | with_reducible apply Ext.drew | with_reducible apply Ext.alloc | with_reducible refine Ext.set ?_ (by first | (simp; done) | (simp; omega)) _ | with_reducible refine Ext.next ?_ (by with_reducible assumption)))) s2).mono ?_
      rintro e w5 ⟨rfl, hw5⟩
      go_wp2
      go_ret
      exact ⟨ret_bool E1.out.symm, (by repeat (first | with_reducible assumption | with_reducible exact Ext.refl _ | with_reducible apply Ext.drewN | with_reducible apply Ext.drew | with_reducible apply Ext.alloc | with_reducible refine Ext.set ?_ (by first | (simp; done) | (simp; omega)) _ | with_reducible refine Ext.next ?_ (by with_reducible assumption)))⟩
  by_cases k1' : kd = 1
  · subst k1'
    cases c : inB kn 0 3
    · have E := hid (show atomOk n (Tn.dat ⟨1, kn, A1, k1, xs, A2, k2, ys⟩) = false by unfold atomOk; simp only [Tn.dat]; simp [c])
      have C := hid c
      clear c k4
      go_enter Try.func18, Try.ntmps18
      go_wp2_with fail
      refine (specL1In _ _ _ _).mono ?_
      rintro e w' ⟨rfl, rfl⟩
      rw [C.out]
      go_wp2
      go_ret
      exact ⟨ret_bool E.out.symm, (by repeat (first | with_reducible assumption | with_reducible exact Ext.refl _ | with_reducible apply Ext.drewN | with_reducible apply Ext.drew | with_reducible apply Ext.alloc | with_reducible refine Ext.set ?_ (by first | (simp; done) | (simp; omega)) _ | with_reducible refine Ext.next ?_ (by with_reducible assumption)))⟩
    · have E := hid (show atomOk n (Tn.dat ⟨1, kn, A1, k1, xs, A2, k2, ys⟩) = bareB (Tn.dat ⟨1, kn, A1, k1, xs, A2, k2, ys⟩) by unfold atomOk; simp only [Tn.dat]; simp [c])
      have C := hid c
      clear c k4
      go_enter Try.func18, Try.ntmps18
      go_wp2_with fail
      refine (specL1In _ _ _ _).mono ?_
      rintro e w' ⟨rfl, rfl⟩
      rw [C.out]
      go_wp2_with fail
      refine (bare ⟨1, kn, A1, k1, xs, A2, k2, ys⟩ _ ⟨s1, s2⟩).mono ?_
      rintro e w3 ⟨rfl, hw3⟩
      go_wp2
      go_ret
      exact ⟨ret_bool E.out.symm, (by repeat (first | with_reducible assumption | with_reducible exact Ext.refl _ | with_reducible apply Ext.drewN | with_reducible apply Ext.drew | with_reducible apply Ext.alloc | with_reducible refine Ext.set ?_ (by first | (simp; done) | (simp; omega)) _ | with_reducible refine Ext.next ?_ (by with_reducible assumption)))⟩
  by_cases k2' : kd = 2
  · subst k2'
    cases c : inB kn 0 199
    · have E := hid (show atomOk n (Tn.dat ⟨2, kn, A1, k1, xs, A2, k2, ys⟩) = false by unfold atomOk; simp only [Tn.dat]; simp [c])
      have C := hid c
      clear c k4
      go_enter Try.func18, Try.ntmps18
      go_wp2_with fail
      refine (specL1In _ _ _ _).mono ?_
      rintro e w' ⟨rfl, rfl⟩
      rw [C.out]
      go_wp2
      go_ret
      exact ⟨ret_bool E.out.symm, (by repeat (first | with_reducible assumption | with_reducible exact Ext.refl _ | with_reducible apply Ext.drewN | with_reducible apply Ext.drew | with_reducible apply Ext.alloc | with_reducible refine Ext.set ?_ (by first | (simp; done) | (simp; omega)) _ | with_reducible refine Ext.next ?_ (by with_reducible assumption)))⟩
    · have E := hid (show atomOk n (Tn.dat ⟨2, kn, A1, k1, xs, A2, k2, ys⟩) = bareB (Tn.dat ⟨2, kn, A1, k1, xs, A2, k2, ys⟩) by unfold atomOk; simp only [Tn.dat]; simp [c])
      have C := hid c
      clear c k4
      go_enter Try.func18, Try.ntmps18
      go_wp2_with fail
      refine (specL1In _ _ _ _).mono ?_
      rintro e w' ⟨rfl, rfl⟩
      rw [C.out]
      go_wp2_with fail
      refine (bare ⟨2, kn, A1, k1, xs, A2, k2, ys⟩ _ ⟨s1, s2⟩).mono ?_
      rintro e w3 ⟨rfl, hw3⟩
      go_wp2
      go_ret
      exact ⟨ret_bool E.out.symm, (by repeat (first | with_reducible assumption | with_reducible exact Ext.refl _ | with_reducible apply Ext.drewN | with_reducible apply Ext.drew | with_reducible apply Ext.alloc | with_reducible refine Ext.set ?_ (by first | (simp; done) | (simp; omega)) _ | with_reducible refine Ext.next ?_ (by with_reducible assumption)))⟩
  by_cases k3' : kd = 3
  · subst k3'
    cases c : inB kn 0 199
    · have E := hid (show atomOk n (Tn.dat ⟨3, kn, A1, k1, xs, A2, k2, ys⟩) = false by unfold atomOk; simp only [Tn.dat]; simp [c])
      have C := hid c
      clear c k4
      go_enter Try.func18, Try.ntmps18
      go_wp2_with fail
      refine (specL1In _ _ _ _).mono ?_
      rintro e w' ⟨rfl, rfl⟩
      rw [C.out]
      go_wp2
      go_ret
      exact ⟨ret_bool E.out.symm, (by repeat (first | with_reducible assumption | with_reducible exact Ext.refl _ | with_reducible apply Ext.drewN | with_reducible apply Ext.drew | with_reducible apply Ext.alloc | with_reducible refine Ext.set ?_ (by first | (simp; done) | (simp; omega)) _ | with_reducible refine Ext.next ?_ (by with_reducible assumption)))⟩
    · have E := hid (show atomOk n (Tn.dat ⟨3, kn, A1, k1, xs, A2, k2, ys⟩) = bareB (Tn.dat ⟨3, kn, A1, k1, xs, A2, k2, ys⟩) by unfold atomOk; simp only [Tn.dat]; simp [c])
      have C := hid c
      clear c k4
      go_enter Try.func18, Try.ntmps18
      go_wp2_with fail
      refine (specL1In _ _ _ _).mono ?_
      rintro e w' ⟨rfl, rfl⟩
      rw [C.out]
      go_wp2_with fail
      refine (bare ⟨3, kn, A1, k1, xs, A2, k2, ys⟩ _ ⟨s1, s2⟩).mono ?_
      rintro e w3 ⟨rfl, hw3⟩
      go_wp2
      go_ret
      exact ⟨ret_bool E.out.symm, (by repeat (first | with_reducible assumption | with_reducible exact Ext.refl _ | with_reducible apply Ext.drewN | with_reducible apply Ext.drew | with_reducible apply Ext.alloc | with_reducible refine Ext.set ?_ (by first | (simp; done) | (simp; omega)) _ | with_reducible refine Ext.next ?_ (by with_reducible assumption)))⟩
  · have E := hid (atomOk_else (kn := kn) (n := n) (A1 := A1) (A2 := A2) (k1 := k1) (k2 := k2) (xs := xs) (ys := ys) k1' k2' k3' k4)
    have K4 : (kd == 4) = false := by rw [beq_eq_false_iff_ne]; exact k4
    have K3 : (kd == 3) = false := by rw [beq_eq_false_iff_ne]; exact k3'
    have K2 : (kd == 2) = false := by rw [beq_eq_false_iff_ne]; exact k2'
    have K1 : (kd == 1) = false := by rw [beq_eq_false_iff_ne]; exact k1'
    clear k4 k1' k2' k3'
    go_enter Try.func18, Try.ntmps18
    go_wp2
    go_ret
    exact ⟨ret_bool E.out.symm, (by repeat (first | with_reducible assumption | with_reducible exact Ext.refl _ | with_reducible apply Ext.drewN | with_reducible apply Ext.drew | with_reducible apply Ext.alloc | with_reducible refine Ext.set ?_ (by first | (simp; done) | (simp; omega)) _ | with_reducible refine Ext.next ?_ (by with_reducible assumption)))⟩
end Go.Proofs.Ytkdggfkigjpbfaa
