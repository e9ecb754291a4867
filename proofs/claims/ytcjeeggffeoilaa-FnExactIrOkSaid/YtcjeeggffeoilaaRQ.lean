/- Whether an operation of a piece of code is ok: the reference's l6Op, kind by kind. Conditions: lengths that a machine can hold. -/
import Derived.Test.YtcjeeggffeoilaaRN
namespace Go.Proofs.Ytcjeeggffeoilaa
open Go Go.RowKit
set_option linter.unusedVariables false
set_option linter.unusedSimpArgs false

set_option maxRecDepth 10000 in
set_option maxHeartbeats 2000000 in
theorem specOp1 (A : Option Addr) (c : Nat) (ops : List Op5) (len : Int) (n : Nat) (ox oy ok oat : Int) (w : World) (h : ROp5 63 w A ops) (ho : ops[n]? = some ⟨1, ox, oy, ok, oat⟩) (hlen : 1 ≤ len ∧ len ≤ 8) (hl : ops.length ≤ 48) :
    Calls Try.prog 36 #[.slice A ops.length c, .int .i64 n, .int .i64 len] w fun e w' => e = .returned (.bool (opB ops len n ⟨1, ox, oy, ok, oat⟩)) ∧ Ext w w' := by
  obtain ⟨hn, _⟩ := List.getElem?_eq_some_iff.1 ho
  obtain ⟨g, q, p, rfl, hb, hp, d0, d1, d2, d3, d4⟩ := h.at_ hn
  rw [ho] at hp
  injection hp with hp
  subst hp
  simp only at d0 d1 d2 d3 d4
  have EB : opB ops len n ⟨1, ox, oy, ok, oat⟩ = ((ox == 0) && ((oy == 0) && (kfit 1 ok && (oat == 0)))) := rfl
  cases c0 : (ox == 0)
  · have E := hid (EB.trans (by rw [c0] <;> rfl))
    go_enter Try.func36, Try.ntmps36
    go_wp2
    go_ret
    exact ⟨ret_bool E.out.symm, (by repeat (first | with_reducible assumption | with_reducible exact Ext.refl _ | with_reducible apply Ext.drewN | with_reducible apply Ext.drew | with_reducible apply Ext.alloc | with_reducible refine Ext.set ?_ (by first | (simp; done) | (simp; omega)) _ | with_reducible refine Ext.next ?_ (by with_reducible assumption)))⟩
  cases c1 : (oy == 0)
  · have E := hid (EB.trans (by rw [c0, c1] <;> rfl))
    go_enter Try.func36, Try.ntmps36
    go_wp2
    go_ret
    exact ⟨ret_bool E.out.symm, (by repeat (first | with_reducible assumption | with_reducible exact Ext.refl _ | with_reducible apply Ext.drewN | with_reducible apply Ext.drew | with_reducible apply Ext.alloc | with_reducible refine Ext.set ?_ (by first | (simp; done) | (simp; omega)) _ | with_reducible refine Ext.next ?_ (by with_reducible assumption)))⟩
  cases c2 : kfit 1 ok
  · have E := hid (EB.trans (by rw [c0, c1, c2] <;> rfl))
    have K2 : Hid (wrdOk ok = false) := hid c2
    clear c2
    go_enter Try.func36, Try.ntmps36
    go_wp2_with fail
    refine (specWrdOk _ _).mono ?_
    rintro e w' ⟨rfl, rfl⟩
    rw [K2.out]
    go_wp2
    go_ret
    exact ⟨ret_bool E.out.symm, (by repeat (first | with_reducible assumption | with_reducible exact Ext.refl _ | with_reducible apply Ext.drewN | with_reducible apply Ext.drew | with_reducible apply Ext.alloc | with_reducible refine Ext.set ?_ (by first | (simp; done) | (simp; omega)) _ | with_reducible refine Ext.next ?_ (by with_reducible assumption)))⟩
  cases c3 : (oat == 0)
  · have E := hid (EB.trans (by rw [c0, c1, c2, c3] <;> rfl))
    have K2 : Hid (wrdOk ok = true) := hid c2
    clear c2
    go_enter Try.func36, Try.ntmps36
    go_wp2_with fail
    refine (specWrdOk _ _).mono ?_
    rintro e w' ⟨rfl, rfl⟩
    rw [K2.out]
    go_wp2
    go_ret
    exact ⟨ret_bool E.out.symm, (by repeat (first | with_reducible assumption | with_reducible exact Ext.refl _ | with_reducible apply Ext.drewN | with_reducible apply Ext.drew | with_reducible apply Ext.alloc | with_reducible refine Ext.set ?_ (by first | (simp; done) | (simp; omega)) _ | with_reducible refine Ext.next ?_ (by with_reducible assumption)))⟩
  have E := hid (EB.trans (by rw [c0, c1, c2, c3] <;> rfl))
  have K2 : Hid (wrdOk ok = true) := hid c2
  clear c2
  go_enter Try.func36, Try.ntmps36
  go_wp2_with fail
  refine (specWrdOk _ _).mono ?_
  rintro e w' ⟨rfl, rfl⟩
  rw [K2.out]
  go_wp2
  go_ret
  exact ⟨ret_bool E.out.symm, (by repeat (first | with_reducible assumption | with_reducible exact Ext.refl _ | with_reducible apply Ext.drewN | with_reducible apply Ext.drew | with_reducible apply Ext.alloc | with_reducible refine Ext.set ?_ (by first | (simp; done) | (simp; omega)) _ | with_reducible refine Ext.next ?_ (by with_reducible assumption)))⟩

set_option maxRecDepth 10000 in
set_option maxHeartbeats 2000000 in
theorem specOp2 (A : Option Addr) (c : Nat) (ops : List Op5) (len : Int) (n : Nat) (ox oy ok oat : Int) (w : World) (h : ROp5 63 w A ops) (ho : ops[n]? = some ⟨2, ox, oy, ok, oat⟩) (hlen : 1 ≤ len ∧ len ≤ 8) (hl : ops.length ≤ 48) :
    Calls Try.prog 36 #[.slice A ops.length c, .int .i64 n, .int .i64 len] w fun e w' => e = .returned (.bool (opB ops len n ⟨2, ox, oy, ok, oat⟩)) ∧ Ext w w' := by
  obtain ⟨hn, _⟩ := List.getElem?_eq_some_iff.1 ho
  obtain ⟨g, q, p, rfl, hb, hp, d0, d1, d2, d3, d4⟩ := h.at_ hn
  rw [ho] at hp
  injection hp with hp
  subst hp
  simp only at d0 d1 d2 d3 d4
  have EB : opB ops len n ⟨2, ox, oy, ok, oat⟩ = ((ox == 0) && ((oy == 0) && (kfit 2 ok && (oat == 0)))) := rfl
  cases c0 : (ox == 0)
  · have E := hid (EB.trans (by rw [c0] <;> rfl))
    go_enter Try.func36, Try.ntmps36
    go_wp2
    go_ret
    exact ⟨ret_bool E.out.symm, (by repeat (first | with_reducible assumption | with_reducible exact Ext.refl _ | with_reducible apply Ext.drewN | with_reducible apply Ext.drew | with_reducible apply Ext.alloc | with_reducible refine Ext.set ?_ (by first | (simp; done) | (simp; omega)) _ | with_reducible refine Ext.next ?_ (by with_reducible assumption)))⟩
  cases c1 : (oy == 0)
  · have E := hid (EB.trans (by rw [c0, c1] <;> rfl))
    go_enter Try.func36, Try.ntmps36
    go_wp2
    go_ret
    exact ⟨ret_bool E.out.symm, (by repeat (first | with_reducible assumption | with_reducible exact Ext.refl _ | with_reducible apply Ext.drewN | with_reducible apply Ext.drew | with_reducible apply Ext.alloc | with_reducible refine Ext.set ?_ (by first | (simp; done) | (simp; omega)) _ | with_reducible refine Ext.next ?_ (by with_reducible assumption)))⟩
  cases c2 : kfit 2 ok
  · have E := hid (EB.trans (by rw [c0, c1, c2] <;> rfl))
    have K2 : Hid (inB ok 0 3 = false) := hid c2
    clear c2
    go_enter Try.func36, Try.ntmps36
    go_wp2_with fail
    refine (specL1In _ _ _ _).mono ?_
    rintro e w' ⟨rfl, rfl⟩
    rw [K2.out]
    go_wp2
    go_ret
    exact ⟨ret_bool E.out.symm, (by repeat (first | with_reducible assumption | with_reducible exact Ext.refl _ | with_reducible apply Ext.drewN | with_reducible apply Ext.drew | with_reducible apply Ext.alloc | with_reducible refine Ext.set ?_ (by first | (simp; done) | (simp; omega)) _ | with_reducible refine Ext.next ?_ (by with_reducible assumption)))⟩
  cases c3 : (oat == 0)
  · have E := hid (EB.trans (by rw [c0, c1, c2, c3] <;> rfl))
    have K2 : Hid (inB ok 0 3 = true) := hid c2
    clear c2
    go_enter Try.func36, Try.ntmps36
    go_wp2_with fail
    refine (specL1In _ _ _ _).mono ?_
    rintro e w' ⟨rfl, rfl⟩
    rw [K2.out]
    go_wp2
    go_ret
    exact ⟨ret_bool E.out.symm, (by repeat (first | with_reducible assumption | with_reducible exact Ext.refl _ | with_reducible apply Ext.drewN | with_reducible apply Ext.drew | with_reducible apply Ext.alloc | with_reducible refine Ext.set ?_ (by first | (simp; done) | (simp; omega)) _ | with_reducible refine Ext.next ?_ (by with_reducible assumption)))⟩
  have E := hid (EB.trans (by rw [c0, c1, c2, c3] <;> rfl))
  have K2 : Hid (inB ok 0 3 = true) := hid c2
  clear c2
  go_enter Try.func36, Try.ntmps36
  go_wp2_with fail
  refine (specL1In _ _ _ _).mono ?_
  rintro e w' ⟨rfl, rfl⟩
  rw [K2.out]
  go_wp2
  go_ret
  exact ⟨ret_bool E.out.symm, (by repeat (first | with_reducible assumption | with_reducible exact Ext.refl _ | with_reducible apply Ext.drewN | with_reducible apply Ext.drew | with_reducible apply Ext.alloc | with_reducible refine Ext.set ?_ (by first | (simp; done) | (simp; omega)) _ | with_reducible refine Ext.next ?_ (by with_reducible assumption)))⟩

set_option maxRecDepth 10000 in
set_option maxHeartbeats 2000000 in
theorem specOp3 (A : Option Addr) (c : Nat) (ops : List Op5) (len : Int) (n : Nat) (ox oy ok oat : Int) (w : World) (h : ROp5 63 w A ops) (ho : ops[n]? = some ⟨3, ox, oy, ok, oat⟩) (hlen : 1 ≤ len ∧ len ≤ 8) (hl : ops.length ≤ 48) :
    Calls Try.prog 36 #[.slice A ops.length c, .int .i64 n, .int .i64 len] w fun e w' => e = .returned (.bool (opB ops len n ⟨3, ox, oy, ok, oat⟩)) ∧ Ext w w' := by
  obtain ⟨hn, _⟩ := List.getElem?_eq_some_iff.1 ho
  obtain ⟨g, q, p, rfl, hb, hp, d0, d1, d2, d3, d4⟩ := h.at_ hn
  rw [ho] at hp
  injection hp with hp
  subst hp
  simp only at d0 d1 d2 d3 d4
  have EB : opB ops len n ⟨3, ox, oy, ok, oat⟩ = (valB ops ox n && (valB ops oy n && (kfit 3 ok && (oat == 0)))) := rfl
  cases c0 : valB ops ox n
  · have E := hid (EB.trans (by rw [c0] <;> rfl))
    have C0 := hid c0
    clear c0
    go_enter Try.func36, Try.ntmps36
    go_wp2_with fail
    refine (specVal _ _ ops ox n _ (h.ext (by repeat (first | with_reducible assumption | with_reducible exact Ext.refl _ | with_reducible apply Ext.drewN | with_reducible apply Ext.drew | with_reducible apply Ext.alloc | with_reducible refine Ext.set ?_ (by first | (simp; done) | (simp; omega)) _ | with_reducible refine Ext.next ?_ (by with_reducible assumption)))) (by omega) (by omega) C0.out).mono ?_
    rintro e w' ⟨rfl, rfl⟩
    go_wp2
    go_ret
    exact ⟨ret_bool E.out.symm, (by repeat (first | with_reducible assumption | with_reducible exact Ext.refl _ | with_reducible apply Ext.drewN | with_reducible apply Ext.drew | with_reducible apply Ext.alloc | with_reducible refine Ext.set ?_ (by first | (simp; done) | (simp; omega)) _ | with_reducible refine Ext.next ?_ (by with_reducible assumption)))⟩
  cases c1 : valB ops oy n
  · have E := hid (EB.trans (by rw [c0, c1] <;> rfl))
    have C0 := hid c0
    have C1 := hid c1
    clear c0 c1
    go_enter Try.func36, Try.ntmps36
    go_wp2_with fail
    refine (specVal _ _ ops ox n _ (h.ext (by repeat (first | with_reducible assumption | with_reducible exact Ext.refl _ | with_reducible apply Ext.drewN | with_reducible apply Ext.drew | with_reducible apply Ext.alloc | with_reducible refine Ext.set ?_ (by first | (simp; done) | (simp; omega)) _ | with_reducible refine Ext.next ?_ (by with_reducible assumption)))) (by omega) (by omega) C0.out).mono ?_
    rintro e w' ⟨rfl, rfl⟩
    go_wp2_with fail
    refine (specVal _ _ ops oy n _ (h.ext (by repeat (first | with_reducible assumption | with_reducible exact Ext.refl _ | with_reducible apply Ext.drewN | with_reducible apply Ext.drew | with_reducible apply Ext.alloc | with_reducible refine Ext.set ?_ (by first | (simp; done) | (simp; omega)) _ | with_reducible refine Ext.next ?_ (by with_reducible assumption)))) (by omega) (by omega) C1.out).mono ?_
    rintro e w' ⟨rfl, rfl⟩
    go_wp2
    go_ret
    exact ⟨ret_bool E.out.symm, (by repeat (first | with_reducible assumption | with_reducible exact Ext.refl _ | with_reducible apply Ext.drewN | with_reducible apply Ext.drew | with_reducible apply Ext.alloc | with_reducible refine Ext.set ?_ (by first | (simp; done) | (simp; omega)) _ | with_reducible refine Ext.next ?_ (by with_reducible assumption)))⟩
  cases c2 : kfit 3 ok
  · have E := hid (EB.trans (by rw [c0, c1, c2] <;> rfl))
    have C0 := hid c0
    have C1 := hid c1
    have K2 : Hid (inB ok 1 5 = false) := hid c2
    clear c0 c1 c2
    go_enter Try.func36, Try.ntmps36
    go_wp2_with fail
    refine (specVal _ _ ops ox n _ (h.ext (by repeat (first | with_reducible assumption | with_reducible exact Ext.refl _ | with_reducible apply Ext.drewN | with_reducible apply Ext.drew | with_reducible apply Ext.alloc | with_reducible refine Ext.set ?_ (by first | (simp; done) | (simp; omega)) _ | with_reducible refine Ext.next ?_ (by with_reducible assumption)))) (by omega) (by omega) C0.out).mono ?_
    rintro e w' ⟨rfl, rfl⟩
    go_wp2_with fail
    refine (specVal _ _ ops oy n _ (h.ext (by repeat (first | with_reducible assumption | with_reducible exact Ext.refl _ | with_reducible apply Ext.drewN | with_reducible apply Ext.drew | with_reducible apply Ext.alloc | with_reducible refine Ext.set ?_ (by first | (simp; done) | (simp; omega)) _ | with_reducible refine Ext.next ?_ (by with_reducible assumption)))) (by omega) (by omega) C1.out).mono ?_
    rintro e w' ⟨rfl, rfl⟩
    go_wp2_with fail
    refine (specL1In _ _ _ _).mono ?_
    rintro e w' ⟨rfl, rfl⟩
    rw [K2.out]
    go_wp2
    go_ret
    exact ⟨ret_bool E.out.symm, (by repeat (first | with_reducible assumption | with_reducible exact Ext.refl _ | with_reducible apply Ext.drewN | with_reducible apply Ext.drew | with_reducible apply Ext.alloc | with_reducible refine Ext.set ?_ (by first | (simp; done) | (simp; omega)) _ | with_reducible refine Ext.next ?_ (by with_reducible assumption)))⟩
  cases c3 : (oat == 0)
  · have E := hid (EB.trans (by rw [c0, c1, c2, c3] <;> rfl))
    have C0 := hid c0
    have C1 := hid c1
    have K2 : Hid (inB ok 1 5 = true) := hid c2
    clear c0 c1 c2
    go_enter Try.func36, Try.ntmps36
    go_wp2_with fail
    refine (specVal _ _ ops ox n _ (h.ext (by repeat (first | with_reducible assumption | with_reducible exact Ext.refl _ | with_reducible apply Ext.drewN | with_reducible apply Ext.drew | with_reducible apply Ext.alloc | with_reducible refine Ext.set ?_ (by first | (simp; done) | (simp; omega)) _ | with_reducible refine Ext.next ?_ (by with_reducible assumption)))) (by omega) (by omega) C0.out).mono ?_
    rintro e w' ⟨rfl, rfl⟩
    go_wp2_with fail
    refine (specVal _ _ ops oy n _ (h.ext (by repeat (first | with_reducible assumption | with_reducible exact Ext.refl _ | with_reducible apply Ext.drewN | with_reducible apply Ext.drew | with_reducible apply Ext.alloc | with_reducible refine Ext.set ?_ (by first | (simp; done) | (simp; omega)) _ | with_reducible refine Ext.next ?_ (by with_reducible assumption)))) (by omega) (by omega) C1.out).mono ?_
    rintro e w' ⟨rfl, rfl⟩
    go_wp2_with fail
    refine (specL1In _ _ _ _).mono ?_
    rintro e w' ⟨rfl, rfl⟩
    rw [K2.out]
    go_wp2
    go_ret
    exact ⟨ret_bool E.out.symm, (by repeat (first | with_reducible assumption | with_reducible exact Ext.refl _ | with_reducible apply Ext.drewN | with_reducible apply Ext.drew | with_reducible apply Ext.alloc | with_reducible refine Ext.set ?_ (by first | (simp; done) | (simp; omega)) _ | with_reducible refine Ext.next ?_ (by with_reducible assumption)))⟩
  have E := hid (EB.trans (by rw [c0, c1, c2, c3] <;> rfl))
  have C0 := hid c0
  have C1 := hid c1
  have K2 : Hid (inB ok 1 5 = true) := hid c2
  clear c0 c1 c2
  go_enter Try.func36, Try.ntmps36
  go_wp2_with fail
  refine (specVal _ _ ops ox n _ (h.ext (by repeat (first | with_reducible assumption | with_reducible exact Ext.refl _ | with_reducible apply Ext.drewN | with_reducible apply Ext.drew | with_reducible apply Ext.alloc | with_reducible refine Ext.set ?_ (by first | (simp; done) | (simp; omega)) _ | with_reducible refine Ext.next ?_ (by with_reducible assumption)))) (by omega) (by omega) C0.out).mono ?_
  rintro e w' ⟨rfl, rfl⟩
  go_wp2_with fail
  refine (specVal _ _ ops oy n _ (h.ext (by repeat (first | with_reducible assumption | with_reducible exact Ext.refl _ | with_reducible apply Ext.drewN | with_reducible apply Ext.drew | with_reducible apply Ext.alloc | with_reducible refine Ext.set ?_ (by first | (simp; done) | (simp; omega)) _ | with_reducible refine Ext.next ?_ (by with_reducible assumption)))) (by omega) (by omega) C1.out).mono ?_
  rintro e w' ⟨rfl, rfl⟩
  go_wp2_with fail
  refine (specL1In _ _ _ _).mono ?_
  rintro e w' ⟨rfl, rfl⟩
  rw [K2.out]
  go_wp2
  go_ret
  exact ⟨ret_bool E.out.symm, (by repeat (first | with_reducible assumption | with_reducible exact Ext.refl _ | with_reducible apply Ext.drewN | with_reducible apply Ext.drew | with_reducible apply Ext.alloc | with_reducible refine Ext.set ?_ (by first | (simp; done) | (simp; omega)) _ | with_reducible refine Ext.next ?_ (by with_reducible assumption)))⟩

set_option maxRecDepth 10000 in
set_option maxHeartbeats 2000000 in
theorem specOp4 (A : Option Addr) (c : Nat) (ops : List Op5) (len : Int) (n : Nat) (ox oy ok oat : Int) (w : World) (h : ROp5 63 w A ops) (ho : ops[n]? = some ⟨4, ox, oy, ok, oat⟩) (hlen : 1 ≤ len ∧ len ≤ 8) (hl : ops.length ≤ 48) :
    Calls Try.prog 36 #[.slice A ops.length c, .int .i64 n, .int .i64 len] w fun e w' => e = .returned (.bool (opB ops len n ⟨4, ox, oy, ok, oat⟩)) ∧ Ext w w' := by
  obtain ⟨hn, _⟩ := List.getElem?_eq_some_iff.1 ho
  obtain ⟨g, q, p, rfl, hb, hp, d0, d1, d2, d3, d4⟩ := h.at_ hn
  rw [ho] at hp
  injection hp with hp
  subst hp
  simp only at d0 d1 d2 d3 d4
  have EB : opB ops len n ⟨4, ox, oy, ok, oat⟩ = (valB ops ox n && ((oy == 0) && ((ok == 0) && inB oat 0 (len - 1)))) := rfl
  cases c0 : valB ops ox n
  · have E := hid (EB.trans (by rw [c0] <;> rfl))
    have C0 := hid c0
    clear c0
    go_enter Try.func36, Try.ntmps36
    go_wp2_with fail
    refine (specVal _ _ ops ox n _ (h.ext (by repeat (first | with_reducible assumption | with_reducible exact Ext.refl _ | with_reducible apply Ext.drewN | with_reducible apply Ext.drew | with_reducible apply Ext.alloc | with_reducible refine Ext.set ?_ (by first | (simp; done) | (simp; omega)) _ | with_reducible refine Ext.next ?_ (by with_reducible assumption)))) (by omega) (by omega) C0.out).mono ?_
    rintro e w' ⟨rfl, rfl⟩
    go_wp2
    go_ret
    exact ⟨ret_bool E.out.symm, (by repeat (first | with_reducible assumption | with_reducible exact Ext.refl _ | with_reducible apply Ext.drewN | with_reducible apply Ext.drew | with_reducible apply Ext.alloc | with_reducible refine Ext.set ?_ (by first | (simp; done) | (simp; omega)) _ | with_reducible refine Ext.next ?_ (by with_reducible assumption)))⟩
  cases c1 : (oy == 0)
  · have E := hid (EB.trans (by rw [c0, c1] <;> rfl))
    have C0 := hid c0
    clear c0
    go_enter Try.func36, Try.ntmps36
    go_wp2_with fail
    refine (specVal _ _ ops ox n _ (h.ext (by repeat (first | with_reducible assumption | with_reducible exact Ext.refl _ | with_reducible apply Ext.drewN | with_reducible apply Ext.drew | with_reducible apply Ext.alloc | with_reducible refine Ext.set ?_ (by first | (simp; done) | (simp; omega)) _ | with_reducible refine Ext.next ?_ (by with_reducible assumption)))) (by omega) (by omega) C0.out).mono ?_
    rintro e w' ⟨rfl, rfl⟩
    go_wp2
    go_ret
    exact ⟨ret_bool E.out.symm, (by repeat (first | with_reducible assumption | with_reducible exact Ext.refl _ | with_reducible apply Ext.drewN | with_reducible apply Ext.drew | with_reducible apply Ext.alloc | with_reducible refine Ext.set ?_ (by first | (simp; done) | (simp; omega)) _ | with_reducible refine Ext.next ?_ (by with_reducible assumption)))⟩
  cases c2 : (ok == 0)
  · have E := hid (EB.trans (by rw [c0, c1, c2] <;> rfl))
    have C0 := hid c0
    clear c0
    go_enter Try.func36, Try.ntmps36
    go_wp2_with fail
    refine (specVal _ _ ops ox n _ (h.ext (by repeat (first | with_reducible assumption | with_reducible exact Ext.refl _ | with_reducible apply Ext.drewN | with_reducible apply Ext.drew | with_reducible apply Ext.alloc | with_reducible refine Ext.set ?_ (by first | (simp; done) | (simp; omega)) _ | with_reducible refine Ext.next ?_ (by with_reducible assumption)))) (by omega) (by omega) C0.out).mono ?_
    rintro e w' ⟨rfl, rfl⟩
    go_wp2
    go_ret
    exact ⟨ret_bool E.out.symm, (by repeat (first | with_reducible assumption | with_reducible exact Ext.refl _ | with_reducible apply Ext.drewN | with_reducible apply Ext.drew | with_reducible apply Ext.alloc | with_reducible refine Ext.set ?_ (by first | (simp; done) | (simp; omega)) _ | with_reducible refine Ext.next ?_ (by with_reducible assumption)))⟩
  cases c3 : inB oat 0 (len - 1)
  · have E := hid (EB.trans (by rw [c0, c1, c2, c3] <;> rfl))
    have C0 := hid c0
    have C3 := hid c3
    clear c0 c3
    go_enter Try.func36, Try.ntmps36
    go_wp2_with fail
    refine (specVal _ _ ops ox n _ (h.ext (by repeat (first | with_reducible assumption | with_reducible exact Ext.refl _ | with_reducible apply Ext.drewN | with_reducible apply Ext.drew | with_reducible apply Ext.alloc | with_reducible refine Ext.set ?_ (by first | (simp; done) | (simp; omega)) _ | with_reducible refine Ext.next ?_ (by with_reducible assumption)))) (by omega) (by omega) C0.out).mono ?_
    rintro e w' ⟨rfl, rfl⟩
    go_wp2_with fail
    refine (specL1In _ _ _ _).mono ?_
    rintro e w' ⟨rfl, rfl⟩
    rw [C3.out]
    go_wp2
    go_ret
    exact ⟨ret_bool E.out.symm, (by repeat (first | with_reducible assumption | with_reducible exact Ext.refl _ | with_reducible apply Ext.drewN | with_reducible apply Ext.drew | with_reducible apply Ext.alloc | with_reducible refine Ext.set ?_ (by first | (simp; done) | (simp; omega)) _ | with_reducible refine Ext.next ?_ (by with_reducible assumption)))⟩
  have E := hid (EB.trans (by rw [c0, c1, c2, c3] <;> rfl))
  have C0 := hid c0
  have C3 := hid c3
  clear c0 c3
  go_enter Try.func36, Try.ntmps36
  go_wp2_with fail
  refine (specVal _ _ ops ox n _ (h.ext (by repeat (first | with_reducible assumption | with_reducible exact Ext.refl _ | with_reducible apply Ext.drewN | with_reducible apply Ext.drew | with_reducible apply Ext.alloc | with_reducible refine Ext.set ?_ (by first | (simp; done) | (simp; omega)) _ | with_reducible refine Ext.next ?_ (by with_reducible assumption)))) (by omega) (by omega) C0.out).mono ?_
  rintro e w' ⟨rfl, rfl⟩
  go_wp2_with fail
  refine (specL1In _ _ _ _).mono ?_
  rintro e w' ⟨rfl, rfl⟩
  rw [C3.out]
  go_wp2
  go_ret
  exact ⟨ret_bool E.out.symm, (by repeat (first | with_reducible assumption | with_reducible exact Ext.refl _ | with_reducible apply Ext.drewN | with_reducible apply Ext.drew | with_reducible apply Ext.alloc | with_reducible refine Ext.set ?_ (by first | (simp; done) | (simp; omega)) _ | with_reducible refine Ext.next ?_ (by with_reducible assumption)))⟩

set_option maxRecDepth 10000 in
set_option maxHeartbeats 2000000 in
theorem specOp5 (A : Option Addr) (c : Nat) (ops : List Op5) (len : Int) (n : Nat) (ox oy ok oat : Int) (w : World) (h : ROp5 63 w A ops) (ho : ops[n]? = some ⟨5, ox, oy, ok, oat⟩) (hlen : 1 ≤ len ∧ len ≤ 8) (hl : ops.length ≤ 48) :
    Calls Try.prog 36 #[.slice A ops.length c, .int .i64 n, .int .i64 len] w fun e w' => e = .returned (.bool (opB ops len n ⟨5, ox, oy, ok, oat⟩)) ∧ Ext w w' := by
  obtain ⟨hn, _⟩ := List.getElem?_eq_some_iff.1 ho
  obtain ⟨g, q, p, rfl, hb, hp, d0, d1, d2, d3, d4⟩ := h.at_ hn
  rw [ho] at hp
  injection hp with hp
  subst hp
  simp only at d0 d1 d2 d3 d4
  have EB : opB ops len n ⟨5, ox, oy, ok, oat⟩ = (valB ops ox n && (valB ops oy n && ((ok == 0) && inB oat 0 (len - 1)))) := rfl
  cases c0 : valB ops ox n
  · have E := hid (EB.trans (by rw [c0] <;> rfl))
    have C0 := hid c0
    clear c0
    go_enter Try.func36, Try.ntmps36
    go_wp2_with fail
    refine (specVal _ _ ops ox n _ (h.ext (by repeat (first | with_reducible assumption | with_reducible exact Ext.refl _ | with_reducible apply Ext.drewN | with_reducible apply Ext.drew | with_reducible apply Ext.alloc | with_reducible refine Ext.set ?_ (by first | (simp; done) | (simp; omega)) _ | with_reducible refine Ext.next ?_ (by with_reducible assumption)))) (by omega) (by omega) C0.out).mono ?_
    rintro e w' ⟨rfl, rfl⟩
    go_wp2
    go_ret
    exact ⟨ret_bool E.out.symm, (by repeat (first | with_reducible assumption | with_reducible exact Ext.refl _ | with_reducible apply Ext.drewN | with_reducible apply Ext.drew | with_reducible apply Ext.alloc | with_reducible refine Ext.set ?_ (by first | (simp; done) | (simp; omega)) _ | with_reducible refine Ext.next ?_ (by with_reducible assumption)))⟩
  cases c1 : valB ops oy n
  · have E := hid (EB.trans (by rw [c0, c1] <;> rfl))
    have C0 := hid c0
    have C1 := hid c1
    clear c0 c1
    go_enter Try.func36, Try.ntmps36
    go_wp2_with fail
    refine (specVal _ _ ops ox n _ (h.ext (by repeat (first | with_reducible assumption | with_reducible exact Ext.refl _ | with_reducible apply Ext.drewN | with_reducible apply Ext.drew | with_reducible apply Ext.alloc | with_reducible refine Ext.set ?_ (by first | (simp; done) | (simp; omega)) _ | with_reducible refine Ext.next ?_ (by with_reducible assumption)))) (by omega) (by omega) C0.out).mono ?_
    rintro e w' ⟨rfl, rfl⟩
    go_wp2_with fail
    refine (specVal _ _ ops oy n _ (h.ext (by repeat (first | with_reducible assumption | with_reducible exact Ext.refl _ | with_reducible apply Ext.drewN | with_reducible apply Ext.drew | with_reducible apply Ext.alloc | with_reducible refine Ext.set ?_ (by first | (simp; done) | (simp; omega)) _ | with_reducible refine Ext.next ?_ (by with_reducible assumption)))) (by omega) (by omega) C1.out).mono ?_
    rintro e w' ⟨rfl, rfl⟩
    go_wp2
    go_ret
    exact ⟨ret_bool E.out.symm, (by repeat (first | with_reducible assumption | with_reducible exact Ext.refl _ | with_reducible apply Ext.drewN | with_reducible apply Ext.drew | with_reducible apply Ext.alloc | with_reducible refine Ext.set ?_ (by first | (simp; done) | (simp; omega)) _ | with_reducible refine Ext.next ?_ (by with_reducible assumption)))⟩
  cases c2 : (ok == 0)
  · have E := hid (EB.trans (by rw [c0, c1, c2] <;> rfl))
    have C0 := hid c0
    have C1 := hid c1
    clear c0 c1
    go_enter Try.func36, Try.ntmps36
    go_wp2_with fail
    refine (specVal _ _ ops ox n _ (h.ext (by repeat (first | with_reducible assumption | with_reducible exact Ext.refl _ | with_reducible apply Ext.drewN | with_reducible apply Ext.drew | with_reducible apply Ext.alloc | with_reducible refine Ext.set ?_ (by first | (simp; done) | (simp; omega)) _ | with_reducible refine Ext.next ?_ (by with_reducible assumption)))) (by omega) (by omega) C0.out).mono ?_
    rintro e w' ⟨rfl, rfl⟩
    go_wp2_with fail
    refine (specVal _ _ ops oy n _ (h.ext (by repeat (first | with_reducible assumption | with_reducible exact Ext.refl _ | with_reducible apply Ext.drewN | with_reducible apply Ext.drew | with_reducible apply Ext.alloc | with_reducible refine Ext.set ?_ (by first | (simp; done) | (simp; omega)) _ | with_reducible refine Ext.next ?_ (by with_reducible assumption)))) (by omega) (by omega) C1.out).mono ?_
    rintro e w' ⟨rfl, rfl⟩
    go_wp2
    go_ret
    exact ⟨ret_bool E.out.symm, (by repeat (first | with_reducible assumption | with_reducible exact Ext.refl _ | with_reducible apply Ext.drewN | with_reducible apply Ext.drew | with_reducible apply Ext.alloc | with_reducible refine Ext.set ?_ (by first | (simp; done) | (simp; omega)) _ | with_reducible refine Ext.next ?_ (by with_reducible assumption)))⟩
  cases c3 : inB oat 0 (len - 1)
  · have E := hid (EB.trans (by rw [c0, c1, c2, c3] <;> rfl))
    have C0 := hid c0
    have C1 := hid c1
    have C3 := hid c3
    clear c0 c1 c3
    go_enter Try.func36, Try.ntmps36
    go_wp2_with fail
    refine (specVal _ _ ops ox n _ (h.ext (by repeat (first | with_reducible assumption | with_reducible exact Ext.refl _ | with_reducible apply Ext.drewN | with_reducible apply Ext.drew | with_reducible apply Ext.alloc | with_reducible refine Ext.set ?_ (by first | (simp; done) | (simp; omega)) _ | with_reducible refine Ext.next ?_ (by with_reducible assumption)))) (by omega) (by omega) C0.out).mono ?_
    rintro e w' ⟨rfl, rfl⟩
    go_wp2_with fail
    refine (specVal _ _ ops oy n _ (h.ext (by repeat (first | with_reducible assumption | with_reducible exact Ext.refl _ | with_reducible apply Ext.drewN | with_reducible apply Ext.drew | with_reducible apply Ext.alloc | with_reducible refine Ext.set ?_ (by first | (simp; done) | (simp; omega)) _ | with_reducible refine Ext.next ?_ (by with_reducible assumption)))) (by omega) (by omega) C1.out).mono ?_
    rintro e w' ⟨rfl, rfl⟩
    go_wp2_with fail
    refine (specL1In _ _ _ _).mono ?_
    rintro e w' ⟨rfl, rfl⟩
    rw [C3.out]
    go_wp2
    go_ret
    exact ⟨ret_bool E.out.symm, (by repeat (first | with_reducible assumption | with_reducible exact Ext.refl _ | with_reducible apply Ext.drewN | with_reducible apply Ext.drew | with_reducible apply Ext.alloc | with_reducible refine Ext.set ?_ (by first | (simp; done) | (simp; omega)) _ | with_reducible refine Ext.next ?_ (by with_reducible assumption)))⟩
  have E := hid (EB.trans (by rw [c0, c1, c2, c3] <;> rfl))
  have C0 := hid c0
  have C1 := hid c1
  have C3 := hid c3
  clear c0 c1 c3
  go_enter Try.func36, Try.ntmps36
  go_wp2_with fail
  refine (specVal _ _ ops ox n _ (h.ext (by repeat (first | with_reducible assumption | with_reducible exact Ext.refl _ | with_reducible apply Ext.drewN | with_reducible apply Ext.drew | with_reducible apply Ext.alloc | with_reducible refine Ext.set ?_ (by first | (simp; done) | (simp; omega)) _ | with_reducible refine Ext.next ?_ (by with_reducible assumption)))) (by omega) (by omega) C0.out).mono ?_
  rintro e w' ⟨rfl, rfl⟩
  go_wp2_with fail
  refine (specVal _ _ ops oy n _ (h.ext (by repeat (first | with_reducible assumption | with_reducible exact Ext.refl _ | with_reducible apply Ext.drewN | with_reducible apply Ext.drew | with_reducible apply Ext.alloc | with_reducible refine Ext.set ?_ (by first | (simp; done) | (simp; omega)) _ | with_reducible refine Ext.next ?_ (by with_reducible assumption)))) (by omega) (by omega) C1.out).mono ?_
  rintro e w' ⟨rfl, rfl⟩
  go_wp2_with fail
  refine (specL1In _ _ _ _).mono ?_
  rintro e w' ⟨rfl, rfl⟩
  rw [C3.out]
  go_wp2
  go_ret
  exact ⟨ret_bool E.out.symm, (by repeat (first | with_reducible assumption | with_reducible exact Ext.refl _ | with_reducible apply Ext.drewN | with_reducible apply Ext.drew | with_reducible apply Ext.alloc | with_reducible refine Ext.set ?_ (by first | (simp; done) | (simp; omega)) _ | with_reducible refine Ext.next ?_ (by with_reducible assumption)))⟩

set_option maxRecDepth 10000 in
set_option maxHeartbeats 2000000 in
theorem specOp6 (A : Option Addr) (c : Nat) (ops : List Op5) (len : Int) (n : Nat) (ox oy ok oat : Int) (w : World) (h : ROp5 63 w A ops) (ho : ops[n]? = some ⟨6, ox, oy, ok, oat⟩) (hlen : 1 ≤ len ∧ len ≤ 8) (hl : ops.length ≤ 48) :
    Calls Try.prog 36 #[.slice A ops.length c, .int .i64 n, .int .i64 len] w fun e w' => e = .returned (.bool (opB ops len n ⟨6, ox, oy, ok, oat⟩)) ∧ Ext w w' := by
  obtain ⟨hn, _⟩ := List.getElem?_eq_some_iff.1 ho
  obtain ⟨g, q, p, rfl, hb, hp, d0, d1, d2, d3, d4⟩ := h.at_ hn
  rw [ho] at hp
  injection hp with hp
  subst hp
  simp only at d0 d1 d2 d3 d4
  have EB : opB ops len n ⟨6, ox, oy, ok, oat⟩ = ((ox == 0) && ((oy == 0) && ((ok == 0) && inB oat 0 (len - 1)))) := rfl
  cases c0 : (ox == 0)
  · have E := hid (EB.trans (by rw [c0] <;> rfl))
    go_enter Try.func36, Try.ntmps36
    go_wp2
    go_ret
    exact ⟨ret_bool E.out.symm, (by repeat (first | with_reducible assumption | with_reducible exact Ext.refl _ | with_reducible apply Ext.drewN | with_reducible apply Ext.drew | with_reducible apply Ext.alloc | with_reducible refine Ext.set ?_ (by first | (simp; done) | (simp; omega)) _ | with_reducible refine Ext.next ?_ (by with_reducible assumption)))⟩
  cases c1 : (oy == 0)
  · have E := hid (EB.trans (by rw [c0, c1] <;> rfl))
    go_enter Try.func36, Try.ntmps36
    go_wp2
    go_ret
    exact ⟨ret_bool E.out.symm, (by repeat (first | with_reducible assumption | with_reducible exact Ext.refl _ | with_reducible apply Ext.drewN | with_reducible apply Ext.drew | with_reducible apply Ext.alloc | with_reducible refine Ext.set ?_ (by first | (simp; done) | (simp; omega)) _ | with_reducible refine Ext.next ?_ (by with_reducible assumption)))⟩
  cases c2 : (ok == 0)
  · have E := hid (EB.trans (by rw [c0, c1, c2] <;> rfl))
    go_enter Try.func36, Try.ntmps36
    go_wp2
    go_ret
    exact ⟨ret_bool E.out.symm, (by repeat (first | with_reducible assumption | with_reducible exact Ext.refl _ | with_reducible apply Ext.drewN | with_reducible apply Ext.drew | with_reducible apply Ext.alloc | with_reducible refine Ext.set ?_ (by first | (simp; done) | (simp; omega)) _ | with_reducible refine Ext.next ?_ (by with_reducible assumption)))⟩
  cases c3 : inB oat 0 (len - 1)
  · have E := hid (EB.trans (by rw [c0, c1, c2, c3] <;> rfl))
    have C3 := hid c3
    clear c3
    go_enter Try.func36, Try.ntmps36
    go_wp2_with fail
    refine (specL1In _ _ _ _).mono ?_
    rintro e w' ⟨rfl, rfl⟩
    rw [C3.out]
    go_wp2
    go_ret
    exact ⟨ret_bool E.out.symm, (by repeat (first | with_reducible assumption | with_reducible exact Ext.refl _ | with_reducible apply Ext.drewN | with_reducible apply Ext.drew | with_reducible apply Ext.alloc | with_reducible refine Ext.set ?_ (by first | (simp; done) | (simp; omega)) _ | with_reducible refine Ext.next ?_ (by with_reducible assumption)))⟩
  have E := hid (EB.trans (by rw [c0, c1, c2, c3] <;> rfl))
  have C3 := hid c3
  clear c3
  go_enter Try.func36, Try.ntmps36
  go_wp2_with fail
  refine (specL1In _ _ _ _).mono ?_
  rintro e w' ⟨rfl, rfl⟩
  rw [C3.out]
  go_wp2
  go_ret
  exact ⟨ret_bool E.out.symm, (by repeat (first | with_reducible assumption | with_reducible exact Ext.refl _ | with_reducible apply Ext.drewN | with_reducible apply Ext.drew | with_reducible apply Ext.alloc | with_reducible refine Ext.set ?_ (by first | (simp; done) | (simp; omega)) _ | with_reducible refine Ext.next ?_ (by with_reducible assumption)))⟩

set_option maxRecDepth 10000 in
set_option maxHeartbeats 2000000 in
theorem specOp7 (A : Option Addr) (c : Nat) (ops : List Op5) (len : Int) (n : Nat) (ox oy ok oat : Int) (w : World) (h : ROp5 63 w A ops) (ho : ops[n]? = some ⟨7, ox, oy, ok, oat⟩) (hlen : 1 ≤ len ∧ len ≤ 8) (hl : ops.length ≤ 48) :
    Calls Try.prog 36 #[.slice A ops.length c, .int .i64 n, .int .i64 len] w fun e w' => e = .returned (.bool (opB ops len n ⟨7, ox, oy, ok, oat⟩)) ∧ Ext w w' := by
  obtain ⟨hn, _⟩ := List.getElem?_eq_some_iff.1 ho
  obtain ⟨g, q, p, rfl, hb, hp, d0, d1, d2, d3, d4⟩ := h.at_ hn
  rw [ho] at hp
  injection hp with hp
  subst hp
  simp only at d0 d1 d2 d3 d4
  have EB : opB ops len n ⟨7, ox, oy, ok, oat⟩ = (valB ops ox n && ((oy == 0) && ((ok == 0) && inB oat 0 (len - 1)))) := rfl
  cases c0 : valB ops ox n
  · have E := hid (EB.trans (by rw [c0] <;> rfl))
    have C0 := hid c0
    clear c0
    go_enter Try.func36, Try.ntmps36
    go_wp2_with fail
    refine (specVal _ _ ops ox n _ (h.ext (by repeat (first | with_reducible assumption | with_reducible exact Ext.refl _ | with_reducible apply Ext.drewN | with_reducible apply Ext.drew | with_reducible apply Ext.alloc | with_reducible refine Ext.set ?_ (by first | (simp; done) | (simp; omega)) _ | with_reducible refine Ext.next ?_ (by with_reducible assumption)))) (by omega) (by omega) C0.out).mono ?_
    rintro e w' ⟨rfl, rfl⟩
    go_wp2
    go_ret
    exact ⟨ret_bool E.out.symm, (by repeat (first | with_reducible assumption | with_reducible exact Ext.refl _ | with_reducible apply Ext.drewN | with_reducible apply Ext.drew | with_reducible apply Ext.alloc | with_reducible refine Ext.set ?_ (by first | (simp; done) | (simp; omega)) _ | with_reducible refine Ext.next ?_ (by with_reducible assumption)))⟩
  cases c1 : (oy == 0)
  · have E := hid (EB.trans (by rw [c0, c1] <;> rfl))
    have C0 := hid c0
    clear c0
    go_enter Try.func36, Try.ntmps36
    go_wp2_with fail
    refine (specVal _ _ ops ox n _ (h.ext (by repeat (first | with_reducible assumption | with_reducible exact Ext.refl _ | with_reducible apply Ext.drewN | with_reducible apply Ext.drew | with_reducible apply Ext.alloc | with_reducible refine Ext.set ?_ (by first | (simp; done) | (simp; omega)) _ | with_reducible refine Ext.next ?_ (by with_reducible assumption)))) (by omega) (by omega) C0.out).mono ?_
    rintro e w' ⟨rfl, rfl⟩
    go_wp2
    go_ret
    exact ⟨ret_bool E.out.symm, (by repeat (first | with_reducible assumption | with_reducible exact Ext.refl _ | with_reducible apply Ext.drewN | with_reducible apply Ext.drew | with_reducible apply Ext.alloc | with_reducible refine Ext.set ?_ (by first | (simp; done) | (simp; omega)) _ | with_reducible refine Ext.next ?_ (by with_reducible assumption)))⟩
  cases c2 : (ok == 0)
  · have E := hid (EB.trans (by rw [c0, c1, c2] <;> rfl))
    have C0 := hid c0
    clear c0
    go_enter Try.func36, Try.ntmps36
    go_wp2_with fail
    refine (specVal _ _ ops ox n _ (h.ext (by repeat (first | with_reducible assumption | with_reducible exact Ext.refl _ | with_reducible apply Ext.drewN | with_reducible apply Ext.drew | with_reducible apply Ext.alloc | with_reducible refine Ext.set ?_ (by first | (simp; done) | (simp; omega)) _ | with_reducible refine Ext.next ?_ (by with_reducible assumption)))) (by omega) (by omega) C0.out).mono ?_
    rintro e w' ⟨rfl, rfl⟩
    go_wp2
    go_ret
    exact ⟨ret_bool E.out.symm, (by repeat (first | with_reducible assumption | with_reducible exact Ext.refl _ | with_reducible apply Ext.drewN | with_reducible apply Ext.drew | with_reducible apply Ext.alloc | with_reducible refine Ext.set ?_ (by first | (simp; done) | (simp; omega)) _ | with_reducible refine Ext.next ?_ (by with_reducible assumption)))⟩
  cases c3 : inB oat 0 (len - 1)
  · have E := hid (EB.trans (by rw [c0, c1, c2, c3] <;> rfl))
    have C0 := hid c0
    have C3 := hid c3
    clear c0 c3
    go_enter Try.func36, Try.ntmps36
    go_wp2_with fail
    refine (specVal _ _ ops ox n _ (h.ext (by repeat (first | with_reducible assumption | with_reducible exact Ext.refl _ | with_reducible apply Ext.drewN | with_reducible apply Ext.drew | with_reducible apply Ext.alloc | with_reducible refine Ext.set ?_ (by first | (simp; done) | (simp; omega)) _ | with_reducible refine Ext.next ?_ (by with_reducible assumption)))) (by omega) (by omega) C0.out).mono ?_
    rintro e w' ⟨rfl, rfl⟩
    go_wp2_with fail
    refine (specL1In _ _ _ _).mono ?_
    rintro e w' ⟨rfl, rfl⟩
    rw [C3.out]
    go_wp2
    go_ret
    exact ⟨ret_bool E.out.symm, (by repeat (first | with_reducible assumption | with_reducible exact Ext.refl _ | with_reducible apply Ext.drewN | with_reducible apply Ext.drew | with_reducible apply Ext.alloc | with_reducible refine Ext.set ?_ (by first | (simp; done) | (simp; omega)) _ | with_reducible refine Ext.next ?_ (by with_reducible assumption)))⟩
  have E := hid (EB.trans (by rw [c0, c1, c2, c3] <;> rfl))
  have C0 := hid c0
  have C3 := hid c3
  clear c0 c3
  go_enter Try.func36, Try.ntmps36
  go_wp2_with fail
  refine (specVal _ _ ops ox n _ (h.ext (by repeat (first | with_reducible assumption | with_reducible exact Ext.refl _ | with_reducible apply Ext.drewN | with_reducible apply Ext.drew | with_reducible apply Ext.alloc | with_reducible refine Ext.set ?_ (by first | (simp; done) | (simp; omega)) _ | with_reducible refine Ext.next ?_ (by with_reducible assumption)))) (by omega) (by omega) C0.out).mono ?_
  rintro e w' ⟨rfl, rfl⟩
  go_wp2_with fail
  refine (specL1In _ _ _ _).mono ?_
  rintro e w' ⟨rfl, rfl⟩
  rw [C3.out]
  go_wp2
  go_ret
  exact ⟨ret_bool E.out.symm, (by repeat (first | with_reducible assumption | with_reducible exact Ext.refl _ | with_reducible apply Ext.drewN | with_reducible apply Ext.drew | with_reducible apply Ext.alloc | with_reducible refine Ext.set ?_ (by first | (simp; done) | (simp; omega)) _ | with_reducible refine Ext.next ?_ (by with_reducible assumption)))⟩

set_option maxRecDepth 10000 in
set_option maxHeartbeats 2000000 in
theorem specOp8 (A : Option Addr) (c : Nat) (ops : List Op5) (len : Int) (n : Nat) (ox oy ok oat : Int) (w : World) (h : ROp5 63 w A ops) (ho : ops[n]? = some ⟨8, ox, oy, ok, oat⟩) (hlen : 1 ≤ len ∧ len ≤ 8) (hl : ops.length ≤ 48) :
    Calls Try.prog 36 #[.slice A ops.length c, .int .i64 n, .int .i64 len] w fun e w' => e = .returned (.bool (opB ops len n ⟨8, ox, oy, ok, oat⟩)) ∧ Ext w w' := by
  obtain ⟨hn, _⟩ := List.getElem?_eq_some_iff.1 ho
  obtain ⟨g, q, p, rfl, hb, hp, d0, d1, d2, d3, d4⟩ := h.at_ hn
  rw [ho] at hp
  injection hp with hp
  subst hp
  simp only at d0 d1 d2 d3 d4
  have EB : opB ops len n ⟨8, ox, oy, ok, oat⟩ = (valB ops ox n && ((oy == 0) && (kfit 8 ok && (oat == 0)))) := rfl
  cases c0 : valB ops ox n
  · have E := hid (EB.trans (by rw [c0] <;> rfl))
    have C0 := hid c0
    clear c0
    go_enter Try.func36, Try.ntmps36
    go_wp2_with fail
    refine (specVal _ _ ops ox n _ (h.ext (by repeat (first | with_reducible assumption | with_reducible exact Ext.refl _ | with_reducible apply Ext.drewN | with_reducible apply Ext.drew | with_reducible apply Ext.alloc | with_reducible refine Ext.set ?_ (by first | (simp; done) | (simp; omega)) _ | with_reducible refine Ext.next ?_ (by with_reducible assumption)))) (by omega) (by omega) C0.out).mono ?_
    rintro e w' ⟨rfl, rfl⟩
    go_wp2
    go_ret
    exact ⟨ret_bool E.out.symm, (by repeat (first | with_reducible assumption | with_reducible exact Ext.refl _ | with_reducible apply Ext.drewN | with_reducible apply Ext.drew | with_reducible apply Ext.alloc | with_reducible refine Ext.set ?_ (by first | (simp; done) | (simp; omega)) _ | with_reducible refine Ext.next ?_ (by with_reducible assumption)))⟩
  cases c1 : (oy == 0)
  · have E := hid (EB.trans (by rw [c0, c1] <;> rfl))
    have C0 := hid c0
    clear c0
    go_enter Try.func36, Try.ntmps36
    go_wp2_with fail
    refine (specVal _ _ ops ox n _ (h.ext (by repeat (first | with_reducible assumption | with_reducible exact Ext.refl _ | with_reducible apply Ext.drewN | with_reducible apply Ext.drew | with_reducible apply Ext.alloc | with_reducible refine Ext.set ?_ (by first | (simp; done) | (simp; omega)) _ | with_reducible refine Ext.next ?_ (by with_reducible assumption)))) (by omega) (by omega) C0.out).mono ?_
    rintro e w' ⟨rfl, rfl⟩
    go_wp2
    go_ret
    exact ⟨ret_bool E.out.symm, (by repeat (first | with_reducible assumption | with_reducible exact Ext.refl _ | with_reducible apply Ext.drewN | with_reducible apply Ext.drew | with_reducible apply Ext.alloc | with_reducible refine Ext.set ?_ (by first | (simp; done) | (simp; omega)) _ | with_reducible refine Ext.next ?_ (by with_reducible assumption)))⟩
  cases c2 : kfit 8 ok
  · have E := hid (EB.trans (by rw [c0, c1, c2] <;> rfl))
    have C0 := hid c0
    have K2 : Hid (inB ok 0 3 = false) := hid c2
    clear c0 c2
    go_enter Try.func36, Try.ntmps36
    go_wp2_with fail
    refine (specVal _ _ ops ox n _ (h.ext (by repeat (first | with_reducible assumption | with_reducible exact Ext.refl _ | with_reducible apply Ext.drewN | with_reducible apply Ext.drew | with_reducible apply Ext.alloc | with_reducible refine Ext.set ?_ (by first | (simp; done) | (simp; omega)) _ | with_reducible refine Ext.next ?_ (by with_reducible assumption)))) (by omega) (by omega) C0.out).mono ?_
    rintro e w' ⟨rfl, rfl⟩
    go_wp2_with fail
    refine (specL1In _ _ _ _).mono ?_
    rintro e w' ⟨rfl, rfl⟩
    rw [K2.out]
    go_wp2
    go_ret
    exact ⟨ret_bool E.out.symm, (by repeat (first | with_reducible assumption | with_reducible exact Ext.refl _ | with_reducible apply Ext.drewN | with_reducible apply Ext.drew | with_reducible apply Ext.alloc | with_reducible refine Ext.set ?_ (by first | (simp; done) | (simp; omega)) _ | with_reducible refine Ext.next ?_ (by with_reducible assumption)))⟩
  cases c3 : (oat == 0)
  · have E := hid (EB.trans (by rw [c0, c1, c2, c3] <;> rfl))
    have C0 := hid c0
    have K2 : Hid (inB ok 0 3 = true) := hid c2
    clear c0 c2
    go_enter Try.func36, Try.ntmps36
    go_wp2_with fail
    refine (specVal _ _ ops ox n _ (h.ext (by repeat (first | with_reducible assumption | with_reducible exact Ext.refl _ | with_reducible apply Ext.drewN | with_reducible apply Ext.drew | with_reducible apply Ext.alloc | with_reducible refine Ext.set ?_ (by first | (simp; done) | (simp; omega)) _ | with_reducible refine Ext.next ?_ (by with_reducible assumption)))) (by omega) (by omega) C0.out).mono ?_
    rintro e w' ⟨rfl, rfl⟩
    go_wp2_with fail
    refine (specL1In _ _ _ _).mono ?_
    rintro e w' ⟨rfl, rfl⟩
    rw [K2.out]
    go_wp2
    go_ret
    exact ⟨ret_bool E.out.symm, (by repeat (first | with_reducible assumption | with_reducible exact Ext.refl _ | with_reducible apply Ext.drewN | with_reducible apply Ext.drew | with_reducible apply Ext.alloc | with_reducible refine Ext.set ?_ (by first | (simp; done) | (simp; omega)) _ | with_reducible refine Ext.next ?_ (by with_reducible assumption)))⟩
  have E := hid (EB.trans (by rw [c0, c1, c2, c3] <;> rfl))
  have C0 := hid c0
  have K2 : Hid (inB ok 0 3 = true) := hid c2
  clear c0 c2
  go_enter Try.func36, Try.ntmps36
  go_wp2_with fail
  refine (specVal _ _ ops ox n _ (h.ext (by repeat (first | with_reducible assumption | with_reducible exact Ext.refl _ | with_reducible apply Ext.drewN | with_reducible apply Ext.drew | with_reducible apply Ext.alloc | with_reducible refine Ext.set ?_ (by first | (simp; done) | (simp; omega)) _ | with_reducible refine Ext.next ?_ (by with_reducible assumption)))) (by omega) (by omega) C0.out).mono ?_
  rintro e w' ⟨rfl, rfl⟩
  go_wp2_with fail
  refine (specL1In _ _ _ _).mono ?_
  rintro e w' ⟨rfl, rfl⟩
  rw [K2.out]
  go_wp2
  go_ret
  exact ⟨ret_bool E.out.symm, (by repeat (first | with_reducible assumption | with_reducible exact Ext.refl _ | with_reducible apply Ext.drewN | with_reducible apply Ext.drew | with_reducible apply Ext.alloc | with_reducible refine Ext.set ?_ (by first | (simp; done) | (simp; omega)) _ | with_reducible refine Ext.next ?_ (by with_reducible assumption)))⟩
end Go.Proofs.Ytcjeeggffeoilaa
