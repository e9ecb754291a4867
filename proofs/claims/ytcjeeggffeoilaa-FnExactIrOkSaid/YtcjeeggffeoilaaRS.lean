/- Whether operations and ends of a piece of code are ok: contracts of both sides. Conditions: lengths that a machine can hold. -/
import Derived.Test.YtcjeeggffeoilaaRO
import Derived.Test.YtcjeeggffeoilaaRQ
namespace Go.Proofs.Ytcjeeggffeoilaa
open Go Go.RowKit
set_option linter.unusedVariables false
set_option linter.unusedSimpArgs false

theorem implOpOk (b : Bk) (n : Nat) (o : Op5) (w : World) (h : RBk 63 w b) (ho : b.ops[n]? = some o) (hlen : 1 ≤ b.len ∧ b.len ≤ 8) (hl : b.ops.length ≤ 48) {v : Bool} (hv : opB b.ops b.len n o = v) :
    Calls Try.prog 39 #[b.val, .int .i64 n] w fun e w' => e = .returned (.bool v) ∧ Ext w w' := by
  subst hv
  cases hc : inB o.kind 1 8
  · obtain ⟨pc, len, A, c, ops, end_, bx, y, k⟩ := b
    unfold RBk at h
    unfold Bk.val Bk.cells
    simp only at h ho hlen hl ⊢
    obtain ⟨hn, _⟩ := List.getElem?_eq_some_iff.1 ho
    obtain ⟨g, q, p, rfl, hb, hp, d0, d1, d2, d3, d4⟩ := h.at_ hn
    obtain rfl : o = p := by rw [ho] at hp; injection hp
    have C := hid hc
    have E := hid (show opB ops len n o = false by unfold opB; rw [hc]; rfl)
    clear hc hp
    go_enter Try.func39, Try.ntmps39
    go_wp2_with fail
    refine (implIn _ _ _ _).mono ?_
    rintro e w' ⟨rfl, rfl⟩
    rw [C.out]
    go_wp2
    go_ret
    exact ⟨ret_bool E.out.symm, (by repeat (first | with_reducible assumption | with_reducible exact Ext.refl _ | with_reducible apply Ext.drewN | with_reducible apply Ext.drew | with_reducible apply Ext.alloc | with_reducible refine Ext.set ?_ (by first | (simp; done) | (simp; omega)) _ | with_reducible refine Ext.next ?_ (by with_reducible assumption)))⟩
  · obtain ⟨kd, ox, oy, ok, oat⟩ := o
    have hk := kinds8 hc
    simp only at hk
    rcases hk with rfl | rfl | rfl | rfl | rfl | rfl | rfl | rfl
    · exact implOp1 b n ox oy ok oat w h ho hlen hl
    · exact implOp2 b n ox oy ok oat w h ho hlen hl
    · exact implOp3 b n ox oy ok oat w h ho hlen hl
    · exact implOp4 b n ox oy ok oat w h ho hlen hl
    · exact implOp5 b n ox oy ok oat w h ho hlen hl
    · exact implOp6 b n ox oy ok oat w h ho hlen hl
    · exact implOp7 b n ox oy ok oat w h ho hlen hl
    · exact implOp8 b n ox oy ok oat w h ho hlen hl
set_option maxRecDepth 10000 in
theorem specOpOk (A : Option Addr) (c : Nat) (ops : List Op5) (len : Int) (n : Nat) (o : Op5) (w : World) (h : ROp5 63 w A ops) (ho : ops[n]? = some o) (hlen : 1 ≤ len ∧ len ≤ 8) (hl : ops.length ≤ 48) {v : Bool} (hv : opB ops len n o = v) :
    Calls Try.prog 36 #[.slice A ops.length c, .int .i64 n, .int .i64 len] w fun e w' => e = .returned (.bool v) ∧ Ext w w' := by
  subst hv
  cases hc : inB o.kind 1 8
  · obtain ⟨hn, _⟩ := List.getElem?_eq_some_iff.1 ho
    obtain ⟨g, q, p, rfl, hb, hp, d0, d1, d2, d3, d4⟩ := h.at_ hn
    obtain rfl : o = p := by rw [ho] at hp; injection hp
    have E := hid (show opB ops len n o = false by unfold opB; rw [hc]; rfl)
    have hne : ¬ (1 ≤ o.kind ∧ o.kind ≤ 8) := fun e => by unfold inB at hc; simp at hc; omega
    have K1 : (o.kind == 1) = false := by rw [beq_eq_false_iff_ne]; omega
    have K2 : (o.kind == 2) = false := by rw [beq_eq_false_iff_ne]; omega
    have K3 : (o.kind == 3) = false := by rw [beq_eq_false_iff_ne]; omega
    have K4 : (o.kind == 4) = false := by rw [beq_eq_false_iff_ne]; omega
    have K5 : (o.kind == 5) = false := by rw [beq_eq_false_iff_ne]; omega
    have K6 : (o.kind == 6) = false := by rw [beq_eq_false_iff_ne]; omega
    have K7 : (o.kind == 7) = false := by rw [beq_eq_false_iff_ne]; omega
    have K8 : (o.kind == 8) = false := by rw [beq_eq_false_iff_ne]; omega
    clear hc hp hne
    go_enter Try.func36, Try.ntmps36
    go_wp2
    go_ret
    exact ⟨ret_bool E.out.symm, (by repeat (first | with_reducible assumption | with_reducible exact Ext.refl _ | with_reducible apply Ext.drewN | with_reducible apply Ext.drew | with_reducible apply Ext.alloc | with_reducible refine Ext.set ?_ (by first | (simp; done) | (simp; omega)) _ | with_reducible refine Ext.next ?_ (by with_reducible assumption)))⟩
  · obtain ⟨kd, ox, oy, ok, oat⟩ := o
    have hk := kinds8 hc
    simp only at hk
    rcases hk with rfl | rfl | rfl | rfl | rfl | rfl | rfl | rfl
    · exact specOp1 A c ops len n ox oy ok oat w h ho hlen hl
    · exact specOp2 A c ops len n ox oy ok oat w h ho hlen hl
    · exact specOp3 A c ops len n ox oy ok oat w h ho hlen hl
    · exact specOp4 A c ops len n ox oy ok oat w h ho hlen hl
    · exact specOp5 A c ops len n ox oy ok oat w h ho hlen hl
    · exact specOp6 A c ops len n ox oy ok oat w h ho hlen hl
    · exact specOp7 A c ops len n ox oy ok oat w h ho hlen hl
    · exact specOp8 A c ops len n ox oy ok oat w h ho hlen hl

/-! ### ends -/
def endB (ops : List Op5) (e x y k : Int) : Bool := inB e 1 4 && ((if (e != 1) then valB ops x ops.length else (x == 0)) && ((if decide (3 ≤ e) then valB ops y ops.length else (y == 0)) && (if (e != 2) then wrdOk k else (k == 0))))
theorem kinds4 {e : Int} (h : inB e 1 4 = true) : e = 1 ∨ e = 2 ∨ e = 3 ∨ e = 4 := by
  unfold inB at h
  simp at h
  omega
theorem implEndHas (b : Bk) (w : World) : Calls Try.prog 50 #[b.val] w fun e w' => e = .returned (.tuple #[.bool (b.end_ != 1), .bool (decide (3 ≤ b.end_)), .bool (b.end_ != 2)]) ∧ Ext w w' := by
  obtain ⟨pc, len, A, c, ops, end_, bx, by_, bk⟩ := b
  unfold Bk.val Bk.cells
  simp only
  go_enter Try.func50, Try.ntmps50
  go_wp2
  refine wp_region_over (by kernel_rfl) (by kernel_rfl) ?_
  repeat (go_big_quiet_step (fail))
  refine wpQuiet_nil ?_
  rintro _ ⟨⟨wq, hwq⟩, rfl⟩
  go_wp2
  go_ret3
  exact ⟨rfl, (by repeat (first | with_reducible assumption | with_reducible exact Ext.refl _ | with_reducible apply Ext.drewN | with_reducible apply Ext.drew | with_reducible apply Ext.alloc | with_reducible refine Ext.set ?_ (by first | (simp; done) | (simp; omega)) _ | with_reducible refine Ext.next ?_ (by with_reducible assumption)))⟩

set_option maxRecDepth 10000 in
set_option maxHeartbeats 1000000 in
theorem implEnd1 (pc len : Int) (A : Option Addr) (c : Nat) (ops : List Op5) (bx by_ bk : Int) (w : World) (h : ROp5 63 w A ops) (hl : ops.length ≤ 48) :
    Calls Try.prog 40 #[Bk.val ⟨pc, len, A, c, ops, 1, bx, by_, bk⟩] w fun e w' => e = .returned (.bool (endB ops 1 bx by_ bk)) ∧ Ext w w' := by
  have EB : endB ops 1 bx by_ bk = ((bx == 0) && ((by_ == 0) && wrdOk bk)) := rfl
  have CK : Hid (inB 1 1 4 = true) := hid rfl
  unfold Bk.val Bk.cells
  simp only
  go_enter Try.func40, Try.ntmps40
  go_wp2_with fail
  refine (implEndHas ⟨pc, len, A, c, ops, 1, bx, by_, bk⟩ _).mono ?_
  rintro e w1 ⟨rfl, hw1⟩
  simp only [show ((1 : Int) != 1) = false from rfl, show decide ((3 : Int) ≤ 1) = false from rfl, show ((1 : Int) != 2) = true from rfl]
  go_upto_region 2 with fail
  try simp only [List.append_eq, List.cons_append, List.nil_append]
  obtain ⟨hc1, hf1⟩ := bcell_ hw1
  have hz1 : w.heap.size < w1.heap.size := by have := hw1.size; simp at this; omega
  have HZ := hid hz1
  go_wp2_with fail
  refine (implIn _ _ _ _).mono ?_
  rintro e w' ⟨rfl, rfl⟩
  rw [CK.out]
  cases c0 : (bx == 0)
  · have E := hid (EB.trans (by rw [c0] <;> rfl))
    go_wp2
    go_ret
    exact ⟨ret_bool E.out.symm, (by repeat (first | with_reducible assumption | with_reducible exact Ext.refl _ | with_reducible apply Ext.drewN | with_reducible apply Ext.drew | with_reducible apply Ext.alloc | with_reducible refine Ext.set ?_ (by first | (simp; done) | (simp; omega)) _ | with_reducible refine Ext.next ?_ (by with_reducible assumption)))⟩
  cases c1 : (by_ == 0)
  · have E := hid (EB.trans (by rw [c0, c1] <;> rfl))
    go_wp2
    go_ret
    exact ⟨ret_bool E.out.symm, (by repeat (first | with_reducible assumption | with_reducible exact Ext.refl _ | with_reducible apply Ext.drewN | with_reducible apply Ext.drew | with_reducible apply Ext.alloc | with_reducible refine Ext.set ?_ (by first | (simp; done) | (simp; omega)) _ | with_reducible refine Ext.next ?_ (by with_reducible assumption)))⟩
  cases c2 : wrdOk bk
  · have E := hid (EB.trans (by rw [c0, c1, c2] <;> rfl))
    have C2 := hid c2
    clear c2
    go_wp2_with fail
    refine (implWrdOk _ _).mono ?_
    rintro e w' ⟨rfl, rfl⟩
    rw [C2.out]
    go_wp2
    go_ret
    exact ⟨ret_bool E.out.symm, (by repeat (first | with_reducible assumption | with_reducible exact Ext.refl _ | with_reducible apply Ext.drewN | with_reducible apply Ext.drew | with_reducible apply Ext.alloc | with_reducible refine Ext.set ?_ (by first | (simp; done) | (simp; omega)) _ | with_reducible refine Ext.next ?_ (by with_reducible assumption)))⟩
  have E := hid (EB.trans (by rw [c0, c1, c2] <;> rfl))
  have C2 := hid c2
  clear c2
  go_wp2_with fail
  refine (implWrdOk _ _).mono ?_
  rintro e w' ⟨rfl, rfl⟩
  rw [C2.out]
  go_wp2
  go_ret
  exact ⟨ret_bool E.out.symm, (by repeat (first | with_reducible assumption | with_reducible exact Ext.refl _ | with_reducible apply Ext.drewN | with_reducible apply Ext.drew | with_reducible apply Ext.alloc | with_reducible refine Ext.set ?_ (by first | (simp; done) | (simp; omega)) _ | with_reducible refine Ext.next ?_ (by with_reducible assumption)))⟩

set_option maxRecDepth 10000 in
theorem specEnd1 (pc len : Int) (A : Option Addr) (c : Nat) (ops : List Op5) (bx by_ bk : Int) (w : World) (h : ROp5 63 w A ops) (hl : ops.length ≤ 48) :
    Calls Try.prog 37 #[Bk.val ⟨pc, len, A, c, ops, 1, bx, by_, bk⟩] w fun e w' => e = .returned (.bool (endB ops 1 bx by_ bk)) ∧ Ext w w' := by
  have EB : endB ops 1 bx by_ bk = ((bx == 0) && ((by_ == 0) && wrdOk bk)) := rfl
  unfold Bk.val Bk.cells
  simp only
  go_enter Try.func37, Try.ntmps37
  cases c0 : (bx == 0)
  · have E := hid (EB.trans (by rw [c0] <;> rfl))
    go_wp2
    go_ret
    exact ⟨ret_bool E.out.symm, (by repeat (first | with_reducible assumption | with_reducible exact Ext.refl _ | with_reducible apply Ext.drewN | with_reducible apply Ext.drew | with_reducible apply Ext.alloc | with_reducible refine Ext.set ?_ (by first | (simp; done) | (simp; omega)) _ | with_reducible refine Ext.next ?_ (by with_reducible assumption)))⟩
  cases c1 : (by_ == 0)
  · have E := hid (EB.trans (by rw [c0, c1] <;> rfl))
    go_wp2
    go_ret
    exact ⟨ret_bool E.out.symm, (by repeat (first | with_reducible assumption | with_reducible exact Ext.refl _ | with_reducible apply Ext.drewN | with_reducible apply Ext.drew | with_reducible apply Ext.alloc | with_reducible refine Ext.set ?_ (by first | (simp; done) | (simp; omega)) _ | with_reducible refine Ext.next ?_ (by with_reducible assumption)))⟩
  cases c2 : wrdOk bk
  · have E := hid (EB.trans (by rw [c0, c1, c2] <;> rfl))
    have C2 := hid c2
    clear c2
    go_wp2_with fail
    refine (specWrdOk _ _).mono ?_
    rintro e w' ⟨rfl, rfl⟩
    rw [C2.out]
    go_wp2
    go_ret
    exact ⟨ret_bool E.out.symm, (by repeat (first | with_reducible assumption | with_reducible exact Ext.refl _ | with_reducible apply Ext.drewN | with_reducible apply Ext.drew | with_reducible apply Ext.alloc | with_reducible refine Ext.set ?_ (by first | (simp; done) | (simp; omega)) _ | with_reducible refine Ext.next ?_ (by with_reducible assumption)))⟩
  have E := hid (EB.trans (by rw [c0, c1, c2] <;> rfl))
  have C2 := hid c2
  clear c2
  go_wp2_with fail
  refine (specWrdOk _ _).mono ?_
  rintro e w' ⟨rfl, rfl⟩
  rw [C2.out]
  go_wp2
  go_ret
  exact ⟨ret_bool E.out.symm, (by repeat (first | with_reducible assumption | with_reducible exact Ext.refl _ | with_reducible apply Ext.drewN | with_reducible apply Ext.drew | with_reducible apply Ext.alloc | with_reducible refine Ext.set ?_ (by first | (simp; done) | (simp; omega)) _ | with_reducible refine Ext.next ?_ (by with_reducible assumption)))⟩

set_option maxRecDepth 10000 in
set_option maxHeartbeats 1000000 in
theorem implEnd2 (pc len : Int) (A : Option Addr) (c : Nat) (ops : List Op5) (bx by_ bk : Int) (w : World) (h : ROp5 63 w A ops) (hl : ops.length ≤ 48) :
    Calls Try.prog 40 #[Bk.val ⟨pc, len, A, c, ops, 2, bx, by_, bk⟩] w fun e w' => e = .returned (.bool (endB ops 2 bx by_ bk)) ∧ Ext w w' := by
  have EB : endB ops 2 bx by_ bk = (valB ops bx ops.length && ((by_ == 0) && (bk == 0))) := rfl
  have CK : Hid (inB 2 1 4 = true) := hid rfl
  unfold Bk.val Bk.cells
  simp only
  go_enter Try.func40, Try.ntmps40
  go_wp2_with fail
  refine (implEndHas ⟨pc, len, A, c, ops, 2, bx, by_, bk⟩ _).mono ?_
  rintro e w1 ⟨rfl, hw1⟩
  simp only [show ((2 : Int) != 1) = true from rfl, show decide ((3 : Int) ≤ 2) = false from rfl, show ((2 : Int) != 2) = false from rfl]
  go_upto_region 2 with fail
  try simp only [List.append_eq, List.cons_append, List.nil_append]
  obtain ⟨hc1, hf1⟩ := bcell_ hw1
  have hz1 : w.heap.size < w1.heap.size := by have := hw1.size; simp at this; omega
  have HZ := hid hz1
  go_wp2_with fail
  refine (implIn _ _ _ _).mono ?_
  rintro e w' ⟨rfl, rfl⟩
  rw [CK.out]
  cases c0 : valB ops bx ops.length
  · have E := hid (EB.trans (by rw [c0] <;> rfl))
    have C0 := hid c0
    clear c0
    go_wp2_with fail
    refine (implValue ⟨pc, len, A, c, ops, 2, bx, by_, bk⟩ bx ops.length _ (h.ext (by repeat (first | with_reducible assumption | with_reducible exact Ext.refl _ | with_reducible apply Ext.drewN | with_reducible apply Ext.drew | with_reducible apply Ext.alloc | with_reducible refine Ext.set ?_ (by first | (simp; done) | (simp; omega)) _ | with_reducible refine Ext.next ?_ (by with_reducible assumption)))) (Nat.le_refl _) (by simp only; omega) C0.out).mono ?_
    rintro e v0 ⟨rfl, hv0⟩
    obtain ⟨hd0, hg0⟩ := bcell_ hv0
    have hzv0 := lt_ext hv0 HZ.out
    replace HZ := hid hzv0
    go_wp2
    go_ret
    exact ⟨ret_bool E.out.symm, (by repeat (first | with_reducible assumption | with_reducible exact Ext.refl _ | with_reducible apply Ext.drewN | with_reducible apply Ext.drew | with_reducible apply Ext.alloc | with_reducible refine Ext.set ?_ (by first | (simp; done) | (simp; omega)) _ | with_reducible refine Ext.next ?_ (by with_reducible assumption)))⟩
  cases c1 : (by_ == 0)
  · have E := hid (EB.trans (by rw [c0, c1] <;> rfl))
    have C0 := hid c0
    clear c0
    go_wp2_with fail
    refine (implValue ⟨pc, len, A, c, ops, 2, bx, by_, bk⟩ bx ops.length _ (h.ext (by repeat (first | with_reducible assumption | with_reducible exact Ext.refl _ | with_reducible apply Ext.drewN | with_reducible apply Ext.drew | with_reducible apply Ext.alloc | with_reducible refine Ext.set ?_ (by first | (simp; done) | (simp; omega)) _ | with_reducible refine Ext.next ?_ (by with_reducible assumption)))) (Nat.le_refl _) (by simp only; omega) C0.out).mono ?_
    rintro e v0 ⟨rfl, hv0⟩
    obtain ⟨hd0, hg0⟩ := bcell_ hv0
    have hzv0 := lt_ext hv0 HZ.out
    replace HZ := hid hzv0
    go_wp2
    go_ret
    exact ⟨ret_bool E.out.symm, (by repeat (first | with_reducible assumption | with_reducible exact Ext.refl _ | with_reducible apply Ext.drewN | with_reducible apply Ext.drew | with_reducible apply Ext.alloc | with_reducible refine Ext.set ?_ (by first | (simp; done) | (simp; omega)) _ | with_reducible refine Ext.next ?_ (by with_reducible assumption)))⟩
  cases c2 : (bk == 0)
  · have E := hid (EB.trans (by rw [c0, c1, c2] <;> rfl))
    have C0 := hid c0
    clear c0
    go_wp2_with fail
    refine (implValue ⟨pc, len, A, c, ops, 2, bx, by_, bk⟩ bx ops.length _ (h.ext (by repeat (first | with_reducible assumption | with_reducible exact Ext.refl _ | with_reducible apply Ext.drewN | with_reducible apply Ext.drew | with_reducible apply Ext.alloc | with_reducible refine Ext.set ?_ (by first | (simp; done) | (simp; omega)) _ | with_reducible refine Ext.next ?_ (by with_reducible assumption)))) (Nat.le_refl _) (by simp only; omega) C0.out).mono ?_
    rintro e v0 ⟨rfl, hv0⟩
    obtain ⟨hd0, hg0⟩ := bcell_ hv0
    have hzv0 := lt_ext hv0 HZ.out
    replace HZ := hid hzv0
    go_wp2
    go_ret
    exact ⟨ret_bool E.out.symm, (by repeat (first | with_reducible assumption | with_reducible exact Ext.refl _ | with_reducible apply Ext.drewN | with_reducible apply Ext.drew | with_reducible apply Ext.alloc | with_reducible refine Ext.set ?_ (by first | (simp; done) | (simp; omega)) _ | with_reducible refine Ext.next ?_ (by with_reducible assumption)))⟩
  have E := hid (EB.trans (by rw [c0, c1, c2] <;> rfl))
  have C0 := hid c0
  clear c0
  go_wp2_with fail
  refine (implValue ⟨pc, len, A, c, ops, 2, bx, by_, bk⟩ bx ops.length _ (h.ext (by repeat (first | with_reducible assumption | with_reducible exact Ext.refl _ | with_reducible apply Ext.drewN | with_reducible apply Ext.drew | with_reducible apply Ext.alloc | with_reducible refine Ext.set ?_ (by first | (simp; done) | (simp; omega)) _ | with_reducible refine Ext.next ?_ (by with_reducible assumption)))) (Nat.le_refl _) (by simp only; omega) C0.out).mono ?_
  rintro e v0 ⟨rfl, hv0⟩
  obtain ⟨hd0, hg0⟩ := bcell_ hv0
  have hzv0 := lt_ext hv0 HZ.out
  replace HZ := hid hzv0
  go_wp2
  go_ret
  exact ⟨ret_bool E.out.symm, (by repeat (first | with_reducible assumption | with_reducible exact Ext.refl _ | with_reducible apply Ext.drewN | with_reducible apply Ext.drew | with_reducible apply Ext.alloc | with_reducible refine Ext.set ?_ (by first | (simp; done) | (simp; omega)) _ | with_reducible refine Ext.next ?_ (by with_reducible assumption)))⟩

set_option maxRecDepth 10000 in
theorem specEnd2 (pc len : Int) (A : Option Addr) (c : Nat) (ops : List Op5) (bx by_ bk : Int) (w : World) (h : ROp5 63 w A ops) (hl : ops.length ≤ 48) :
    Calls Try.prog 37 #[Bk.val ⟨pc, len, A, c, ops, 2, bx, by_, bk⟩] w fun e w' => e = .returned (.bool (endB ops 2 bx by_ bk)) ∧ Ext w w' := by
  have EB : endB ops 2 bx by_ bk = (valB ops bx ops.length && ((by_ == 0) && (bk == 0))) := rfl
  unfold Bk.val Bk.cells
  simp only
  go_enter Try.func37, Try.ntmps37
  cases c0 : valB ops bx ops.length
  · have E := hid (EB.trans (by rw [c0] <;> rfl))
    have C0 := hid c0
    clear c0
    go_wp2_with fail
    refine (specVal _ _ ops bx ops.length _ (h.ext (by repeat (first | with_reducible assumption | with_reducible exact Ext.refl _ | with_reducible apply Ext.drewN | with_reducible apply Ext.drew | with_reducible apply Ext.alloc | with_reducible refine Ext.set ?_ (by first | (simp; done) | (simp; omega)) _ | with_reducible refine Ext.next ?_ (by with_reducible assumption)))) (Nat.le_refl _) (by omega) C0.out).mono ?_
    rintro e w' ⟨rfl, rfl⟩
    go_wp2
    go_ret
    exact ⟨ret_bool E.out.symm, (by repeat (first | with_reducible assumption | with_reducible exact Ext.refl _ | with_reducible apply Ext.drewN | with_reducible apply Ext.drew | with_reducible apply Ext.alloc | with_reducible refine Ext.set ?_ (by first | (simp; done) | (simp; omega)) _ | with_reducible refine Ext.next ?_ (by with_reducible assumption)))⟩
  cases c1 : (by_ == 0)
  · have E := hid (EB.trans (by rw [c0, c1] <;> rfl))
    have C0 := hid c0
    clear c0
    go_wp2_with fail
    refine (specVal _ _ ops bx ops.length _ (h.ext (by repeat (first | with_reducible assumption | with_reducible exact Ext.refl _ | with_reducible apply Ext.drewN | with_reducible apply Ext.drew | with_reducible apply Ext.alloc | with_reducible refine Ext.set ?_ (by first | (simp; done) | (simp; omega)) _ | with_reducible refine Ext.next ?_ (by with_reducible assumption)))) (Nat.le_refl _) (by omega) C0.out).mono ?_
    rintro e w' ⟨rfl, rfl⟩
    go_wp2
    go_ret
    exact ⟨ret_bool E.out.symm, (by repeat (first | with_reducible assumption | with_reducible exact Ext.refl _ | with_reducible apply Ext.drewN | with_reducible apply Ext.drew | with_reducible apply Ext.alloc | with_reducible refine Ext.set ?_ (by first | (simp; done) | (simp; omega)) _ | with_reducible refine Ext.next ?_ (by with_reducible assumption)))⟩
  cases c2 : (bk == 0)
  · have E := hid (EB.trans (by rw [c0, c1, c2] <;> rfl))
    have C0 := hid c0
    clear c0
    go_wp2_with fail
    refine (specVal _ _ ops bx ops.length _ (h.ext (by repeat (first | with_reducible assumption | with_reducible exact Ext.refl _ | with_reducible apply Ext.drewN | with_reducible apply Ext.drew | with_reducible apply Ext.alloc | with_reducible refine Ext.set ?_ (by first | (simp; done) | (simp; omega)) _ | with_reducible refine Ext.next ?_ (by with_reducible assumption)))) (Nat.le_refl _) (by omega) C0.out).mono ?_
    rintro e w' ⟨rfl, rfl⟩
    go_wp2
    go_ret
    exact ⟨ret_bool E.out.symm, (by repeat (first | with_reducible assumption | with_reducible exact Ext.refl _ | with_reducible apply Ext.drewN | with_reducible apply Ext.drew | with_reducible apply Ext.alloc | with_reducible refine Ext.set ?_ (by first | (simp; done) | (simp; omega)) _ | with_reducible refine Ext.next ?_ (by with_reducible assumption)))⟩
  have E := hid (EB.trans (by rw [c0, c1, c2] <;> rfl))
  have C0 := hid c0
  clear c0
  go_wp2_with fail
  refine (specVal _ _ ops bx ops.length _ (h.ext (by repeat (first | with_reducible assumption | with_reducible exact Ext.refl _ | with_reducible apply Ext.drewN | with_reducible apply Ext.drew | with_reducible apply Ext.alloc | with_reducible refine Ext.set ?_ (by first | (simp; done) | (simp; omega)) _ | with_reducible refine Ext.next ?_ (by with_reducible assumption)))) (Nat.le_refl _) (by omega) C0.out).mono ?_
  rintro e w' ⟨rfl, rfl⟩
  go_wp2
  go_ret
  exact ⟨ret_bool E.out.symm, (by repeat (first | with_reducible assumption | with_reducible exact Ext.refl _ | with_reducible apply Ext.drewN | with_reducible apply Ext.drew | with_reducible apply Ext.alloc | with_reducible refine Ext.set ?_ (by first | (simp; done) | (simp; omega)) _ | with_reducible refine Ext.next ?_ (by with_reducible assumption)))⟩

set_option maxRecDepth 10000 in
set_option maxHeartbeats 1000000 in
theorem implEnd3 (pc len : Int) (A : Option Addr) (c : Nat) (ops : List Op5) (bx by_ bk : Int) (w : World) (h : ROp5 63 w A ops) (hl : ops.length ≤ 48) :
    Calls Try.prog 40 #[Bk.val ⟨pc, len, A, c, ops, 3, bx, by_, bk⟩] w fun e w' => e = .returned (.bool (endB ops 3 bx by_ bk)) ∧ Ext w w' := by
  have EB : endB ops 3 bx by_ bk = (valB ops bx ops.length && (valB ops by_ ops.length && wrdOk bk)) := rfl
  have CK : Hid (inB 3 1 4 = true) := hid rfl
  unfold Bk.val Bk.cells
  simp only
  go_enter Try.func40, Try.ntmps40
  go_wp2_with fail
  refine (implEndHas ⟨pc, len, A, c, ops, 3, bx, by_, bk⟩ _).mono ?_
  rintro e w1 ⟨rfl, hw1⟩
  simp only [show ((3 : Int) != 1) = true from rfl, show decide ((3 : Int) ≤ 3) = true from rfl, show ((3 : Int) != 2) = true from rfl]
  go_upto_region 2 with fail
  try simp only [List.append_eq, List.cons_append, List.nil_append]
  obtain ⟨hc1, hf1⟩ := bcell_ hw1
  have hz1 : w.heap.size < w1.heap.size := by have := hw1.size; simp at this; omega
  have HZ := hid hz1
  go_wp2_with fail
  refine (implIn _ _ _ _).mono ?_
  rintro e w' ⟨rfl, rfl⟩
  rw [CK.out]
  cases c0 : valB ops bx ops.length
  · have E := hid (EB.trans (by rw [c0] <;> rfl))
    have C0 := hid c0
    clear c0
    go_wp2_with fail
    refine (implValue ⟨pc, len, A, c, ops, 3, bx, by_, bk⟩ bx ops.length _ (h.ext (by repeat (first | with_reducible assumption | with_reducible exact Ext.refl _ | with_reducible apply Ext.drewN | with_reducible apply Ext.drew | with_reducible apply Ext.alloc | with_reducible refine Ext.set ?_ (by first | (simp; done) | (simp; omega)) _ | with_reducible refine Ext.next ?_ (by with_reducible assumption)))) (Nat.le_refl _) (by simp only; omega) C0.out).mono ?_
    rintro e v0 ⟨rfl, hv0⟩
    obtain ⟨hd0, hg0⟩ := bcell_ hv0
    have hzv0 := lt_ext hv0 HZ.out
    replace HZ := hid hzv0
    go_wp2
    go_ret
    exact ⟨ret_bool E.out.symm, (by repeat (first | with_reducible assumption | with_reducible exact Ext.refl _ | with_reducible apply Ext.drewN | with_reducible apply Ext.drew | with_reducible apply Ext.alloc | with_reducible refine Ext.set ?_ (by first | (simp; done) | (simp; omega)) _ | with_reducible refine Ext.next ?_ (by with_reducible assumption)))⟩
  cases c1 : valB ops by_ ops.length
  · have E := hid (EB.trans (by rw [c0, c1] <;> rfl))
    have C0 := hid c0
    have C1 := hid c1
    clear c0 c1
    go_wp2_with fail
    refine (implValue ⟨pc, len, A, c, ops, 3, bx, by_, bk⟩ bx ops.length _ (h.ext (by repeat (first | with_reducible assumption | with_reducible exact Ext.refl _ | with_reducible apply Ext.drewN | with_reducible apply Ext.drew | with_reducible apply Ext.alloc | with_reducible refine Ext.set ?_ (by first | (simp; done) | (simp; omega)) _ | with_reducible refine Ext.next ?_ (by with_reducible assumption)))) (Nat.le_refl _) (by simp only; omega) C0.out).mono ?_
    rintro e v0 ⟨rfl, hv0⟩
    obtain ⟨hd0, hg0⟩ := bcell_ hv0
    have hzv0 := lt_ext hv0 HZ.out
    replace HZ := hid hzv0
    go_wp2_with fail
    refine (implValue ⟨pc, len, A, c, ops, 3, bx, by_, bk⟩ by_ ops.length _ (h.ext (by repeat (first | with_reducible assumption | with_reducible exact Ext.refl _ | with_reducible apply Ext.drewN | with_reducible apply Ext.drew | with_reducible apply Ext.alloc | with_reducible refine Ext.set ?_ (by first | (simp; done) | (simp; omega)) _ | with_reducible refine Ext.next ?_ (by with_reducible assumption)))) (Nat.le_refl _) (by simp only; omega) C1.out).mono ?_
    rintro e v1 ⟨rfl, hv1⟩
    obtain ⟨hd1, hg1⟩ := bcell_ hv1
    have hzv1 := lt_ext hv1 HZ.out
    replace HZ := hid hzv1
    go_wp2
    go_ret
    exact ⟨ret_bool E.out.symm, (by repeat (first | with_reducible assumption | with_reducible exact Ext.refl _ | with_reducible apply Ext.drewN | with_reducible apply Ext.drew | with_reducible apply Ext.alloc | with_reducible refine Ext.set ?_ (by first | (simp; done) | (simp; omega)) _ | with_reducible refine Ext.next ?_ (by with_reducible assumption)))⟩
  cases c2 : wrdOk bk
  · have E := hid (EB.trans (by rw [c0, c1, c2] <;> rfl))
    have C0 := hid c0
    have C1 := hid c1
    have C2 := hid c2
    clear c0 c1 c2
    go_wp2_with fail
    refine (implValue ⟨pc, len, A, c, ops, 3, bx, by_, bk⟩ bx ops.length _ (h.ext (by repeat (first | with_reducible assumption | with_reducible exact Ext.refl _ | with_reducible apply Ext.drewN | with_reducible apply Ext.drew | with_reducible apply Ext.alloc | with_reducible refine Ext.set ?_ (by first | (simp; done) | (simp; omega)) _ | with_reducible refine Ext.next ?_ (by with_reducible assumption)))) (Nat.le_refl _) (by simp only; omega) C0.out).mono ?_
    rintro e v0 ⟨rfl, hv0⟩
    obtain ⟨hd0, hg0⟩ := bcell_ hv0
    have hzv0 := lt_ext hv0 HZ.out
    replace HZ := hid hzv0
    go_wp2_with fail
    refine (implValue ⟨pc, len, A, c, ops, 3, bx, by_, bk⟩ by_ ops.length _ (h.ext (by repeat (first | with_reducible assumption | with_reducible exact Ext.refl _ | with_reducible apply Ext.drewN | with_reducible apply Ext.drew | with_reducible apply Ext.alloc | with_reducible refine Ext.set ?_ (by first | (simp; done) | (simp; omega)) _ | with_reducible refine Ext.next ?_ (by with_reducible assumption)))) (Nat.le_refl _) (by simp only; omega) C1.out).mono ?_
    rintro e v1 ⟨rfl, hv1⟩
    obtain ⟨hd1, hg1⟩ := bcell_ hv1
    have hzv1 := lt_ext hv1 HZ.out
    replace HZ := hid hzv1
    go_wp2_with fail
    refine (implWrdOk _ _).mono ?_
    rintro e w' ⟨rfl, rfl⟩
    rw [C2.out]
    go_wp2
    go_ret
    exact ⟨ret_bool E.out.symm, (by repeat (first | with_reducible assumption | with_reducible exact Ext.refl _ | with_reducible apply Ext.drewN | with_reducible apply Ext.drew | with_reducible apply Ext.alloc | with_reducible refine Ext.set ?_ (by first | (simp; done) | (simp; omega)) _ | with_reducible refine Ext.next ?_ (by with_reducible assumption)))⟩
  have E := hid (EB.trans (by rw [c0, c1, c2] <;> rfl))
  have C0 := hid c0
  have C1 := hid c1
  have C2 := hid c2
  clear c0 c1 c2
  go_wp2_with fail
  refine (implValue ⟨pc, len, A, c, ops, 3, bx, by_, bk⟩ bx ops.length _ (h.ext (by repeat (first | with_reducible assumption | with_reducible exact Ext.refl _ | with_reducible apply Ext.drewN | with_reducible apply Ext.drew | with_reducible apply Ext.alloc | with_reducible refine Ext.set ?_ (by first | (simp; done) | (simp; omega)) _ | with_reducible refine Ext.next ?_ (by with_reducible assumption)))) (Nat.le_refl _) (by simp only; omega) C0.out).mono ?_
  rintro e v0 ⟨rfl, hv0⟩
  obtain ⟨hd0, hg0⟩ := bcell_ hv0
  have hzv0 := lt_ext hv0 HZ.out
  replace HZ := hid hzv0
  go_wp2_with fail
  refine (implValue ⟨pc, len, A, c, ops, 3, bx, by_, bk⟩ by_ ops.length _ (h.ext (by repeat (first | with_reducible assumption | with_reducible exact Ext.refl _ | with_reducible apply Ext.drewN | with_reducible apply Ext.drew | with_reducible apply Ext.alloc | with_reducible refine Ext.set ?_ (by first | (simp; done) | (simp; omega)) _ | with_reducible refine Ext.next ?_ (by with_reducible assumption)))) (Nat.le_refl _) (by simp only; omega) C1.out).mono ?_
  rintro e v1 ⟨rfl, hv1⟩
  obtain ⟨hd1, hg1⟩ := bcell_ hv1
  have hzv1 := lt_ext hv1 HZ.out
  replace HZ := hid hzv1
  go_wp2_with fail
  refine (implWrdOk _ _).mono ?_
  rintro e w' ⟨rfl, rfl⟩
  rw [C2.out]
  go_wp2
  go_ret
  exact ⟨ret_bool E.out.symm, (by repeat (first | with_reducible assumption | with_reducible exact Ext.refl _ | with_reducible apply Ext.drewN | with_reducible apply Ext.drew | with_reducible apply Ext.alloc | with_reducible refine Ext.set ?_ (by first | (simp; done) | (simp; omega)) _ | with_reducible refine Ext.next ?_ (by with_reducible assumption)))⟩

set_option maxRecDepth 10000 in
theorem specEnd3 (pc len : Int) (A : Option Addr) (c : Nat) (ops : List Op5) (bx by_ bk : Int) (w : World) (h : ROp5 63 w A ops) (hl : ops.length ≤ 48) :
    Calls Try.prog 37 #[Bk.val ⟨pc, len, A, c, ops, 3, bx, by_, bk⟩] w fun e w' => e = .returned (.bool (endB ops 3 bx by_ bk)) ∧ Ext w w' := by
  have EB : endB ops 3 bx by_ bk = (valB ops bx ops.length && (valB ops by_ ops.length && wrdOk bk)) := rfl
  unfold Bk.val Bk.cells
  simp only
  go_enter Try.func37, Try.ntmps37
  cases c0 : valB ops bx ops.length
  · have E := hid (EB.trans (by rw [c0] <;> rfl))
    have C0 := hid c0
    clear c0
    go_wp2_with fail
    refine (specVal _ _ ops bx ops.length _ (h.ext (by repeat (first | with_reducible assumption | with_reducible exact Ext.refl _ | with_reducible apply Ext.drewN | with_reducible apply Ext.drew | with_reducible apply Ext.alloc | with_reducible refine Ext.set ?_ (by first | (simp; done) | (simp; omega)) _ | with_reducible refine Ext.next ?_ (by with_reducible assumption)))) (Nat.le_refl _) (by omega) C0.out).mono ?_
    rintro e w' ⟨rfl, rfl⟩
    go_wp2
    go_ret
    exact ⟨ret_bool E.out.symm, (by repeat (first | with_reducible assumption | with_reducible exact Ext.refl _ | with_reducible apply Ext.drewN | with_reducible apply Ext.drew | with_reducible apply Ext.alloc | with_reducible refine Ext.set ?_ (by first | (simp; done) | (simp; omega)) _ | with_reducible refine Ext.next ?_ (by with_reducible assumption)))⟩
  cases c1 : valB ops by_ ops.length
  · have E := hid (EB.trans (by rw [c0, c1] <;> rfl))
    have C0 := hid c0
    have C1 := hid c1
    clear c0 c1
    go_wp2_with fail
    refine (specVal _ _ ops bx ops.length _ (h.ext (by repeat (first | with_reducible assumption | with_reducible exact Ext.refl _ | with_reducible apply Ext.drewN | with_reducible apply Ext.drew | with_reducible apply Ext.alloc | with_reducible refine Ext.set ?_ (by first | (simp; done) | (simp; omega)) _ | with_reducible refine Ext.next ?_ (by with_reducible assumption)))) (Nat.le_refl _) (by omega) C0.out).mono ?_
    rintro e w' ⟨rfl, rfl⟩
    go_wp2_with fail
    refine (specVal _ _ ops by_ ops.length _ (h.ext (by repeat (first | with_reducible assumption | with_reducible exact Ext.refl _ | with_reducible apply Ext.drewN | with_reducible apply Ext.drew | with_reducible apply Ext.alloc | with_reducible refine Ext.set ?_ (by first | (simp; done) | (simp; omega)) _ | with_reducible refine Ext.next ?_ (by with_reducible assumption)))) (Nat.le_refl _) (by omega) C1.out).mono ?_
    rintro e w' ⟨rfl, rfl⟩
    go_wp2
    go_ret
    exact ⟨ret_bool E.out.symm, (by repeat (first | with_reducible assumption | with_reducible exact Ext.refl _ | with_reducible apply Ext.drewN | with_reducible apply Ext.drew | with_reducible apply Ext.alloc | with_reducible refine Ext.set ?_ (by first | (simp; done) | (simp; omega)) _ | with_reducible refine Ext.next ?_ (by with_reducible assumption)))⟩
  cases c2 : wrdOk bk
  · have E := hid (EB.trans (by rw [c0, c1, c2] <;> rfl))
    have C0 := hid c0
    have C1 := hid c1
    have C2 := hid c2
    clear c0 c1 c2
    go_wp2_with fail
    refine (specVal _ _ ops bx ops.length _ (h.ext (by repeat (first | with_reducible assumption | with_reducible exact Ext.refl _ | with_reducible apply Ext.drewN | with_reducible apply Ext.drew | with_reducible apply Ext.alloc | with_reducible refine Ext.set ?_ (by first | (simp; done) | (simp; omega)) _ | with_reducible refine Ext.next ?_ (by with_reducible assumption)))) (Nat.le_refl _) (by omega) C0.out).mono ?_
    rintro e w' ⟨rfl, rfl⟩
    go_wp2_with fail
    refine (specVal _ _ ops by_ ops.length _ (h.ext (by repeat (first | with_reducible assumption | with_reducible exact Ext.refl _ | with_reducible apply Ext.drewN | with_reducible apply Ext.drew | with_reducible apply Ext.alloc | with_reducible refine Ext.set ?_ (by first | (simp; done) | (simp; omega)) _ | with_reducible refine Ext.next ?_ (by with_reducible assumption)))) (Nat.le_refl _) (by omega) C1.out).mono ?_
    rintro e w' ⟨rfl, rfl⟩
    go_wp2_with fail
    refine (specWrdOk _ _).mono ?_
    rintro e w' ⟨rfl, rfl⟩
    rw [C2.out]
    go_wp2
    go_ret
    exact ⟨ret_bool E.out.symm, (by repeat (first | with_reducible assumption | with_reducible exact Ext.refl _ | with_reducible apply Ext.drewN | with_reducible apply Ext.drew | with_reducible apply Ext.alloc | with_reducible refine Ext.set ?_ (by first | (simp; done) | (simp; omega)) _ | with_reducible refine Ext.next ?_ (by with_reducible assumption)))⟩
  have E := hid (EB.trans (by rw [c0, c1, c2] <;> rfl))
  have C0 := hid c0
  have C1 := hid c1
  have C2 := hid c2
  clear c0 c1 c2
  go_wp2_with fail
  refine (specVal _ _ ops bx ops.length _ (h.ext (by repeat (first | with_reducible assumption | with_reducible exact Ext.refl _ | with_reducible apply Ext.drewN | with_reducible apply Ext.drew | with_reducible apply Ext.alloc | with_reducible refine Ext.set ?_ (by first | (simp; done) | (simp; omega)) _ | with_reducible refine Ext.next ?_ (by with_reducible assumption)))) (Nat.le_refl _) (by omega) C0.out).mono ?_
  rintro e w' ⟨rfl, rfl⟩
  go_wp2_with fail
  refine (specVal _ _ ops by_ ops.length _ (h.ext (by repeat (first | with_reducible assumption | with_reducible exact Ext.refl _ | with_reducible apply Ext.drewN | with_reducible apply Ext.drew | with_reducible apply Ext.alloc | with_reducible refine Ext.set ?_ (by first | (simp; done) | (simp; omega)) _ | with_reducible refine Ext.next ?_ (by with_reducible assumption)))) (Nat.le_refl _) (by omega) C1.out).mono ?_
  rintro e w' ⟨rfl, rfl⟩
  go_wp2_with fail
  refine (specWrdOk _ _).mono ?_
  rintro e w' ⟨rfl, rfl⟩
  rw [C2.out]
  go_wp2
  go_ret
  exact ⟨ret_bool E.out.symm, (by repeat (first | with_reducible assumption | with_reducible exact Ext.refl _ | with_reducible apply Ext.drewN | with_reducible apply Ext.drew | with_reducible apply Ext.alloc | with_reducible refine Ext.set ?_ (by first | (simp; done) | (simp; omega)) _ | with_reducible refine Ext.next ?_ (by with_reducible assumption)))⟩

set_option maxRecDepth 10000 in
set_option maxHeartbeats 1000000 in
theorem implEnd4 (pc len : Int) (A : Option Addr) (c : Nat) (ops : List Op5) (bx by_ bk : Int) (w : World) (h : ROp5 63 w A ops) (hl : ops.length ≤ 48) :
    Calls Try.prog 40 #[Bk.val ⟨pc, len, A, c, ops, 4, bx, by_, bk⟩] w fun e w' => e = .returned (.bool (endB ops 4 bx by_ bk)) ∧ Ext w w' := by
  have EB : endB ops 4 bx by_ bk = (valB ops bx ops.length && (valB ops by_ ops.length && wrdOk bk)) := rfl
  have CK : Hid (inB 4 1 4 = true) := hid rfl
  unfold Bk.val Bk.cells
  simp only
  go_enter Try.func40, Try.ntmps40
  go_wp2_with fail
  refine (implEndHas ⟨pc, len, A, c, ops, 4, bx, by_, bk⟩ _).mono ?_
  rintro e w1 ⟨rfl, hw1⟩
  simp only [show ((4 : Int) != 1) = true from rfl, show decide ((3 : Int) ≤ 4) = true from rfl, show ((4 : Int) != 2) = true from rfl]
  go_upto_region 2 with fail
  try simp only [List.append_eq, List.cons_append, List.nil_append]
  obtain ⟨hc1, hf1⟩ := bcell_ hw1
  have hz1 : w.heap.size < w1.heap.size := by have := hw1.size; simp at this; omega
  have HZ := hid hz1
  go_wp2_with fail
  refine (implIn _ _ _ _).mono ?_
  rintro e w' ⟨rfl, rfl⟩
  rw [CK.out]
  cases c0 : valB ops bx ops.length
  · have E := hid (EB.trans (by rw [c0] <;> rfl))
    have C0 := hid c0
    clear c0
    go_wp2_with fail
    refine (implValue ⟨pc, len, A, c, ops, 4, bx, by_, bk⟩ bx ops.length _ (h.ext (by repeat (first | with_reducible assumption | with_reducible exact Ext.refl _ | with_reducible apply Ext.drewN | with_reducible apply Ext.drew | with_reducible apply Ext.alloc | with_reducible refine Ext.set ?_ (by first | (simp; done) | (simp; omega)) _ | with_reducible refine Ext.next ?_ (by with_reducible assumption)))) (Nat.le_refl _) (by simp only; omega) C0.out).mono ?_
    rintro e v0 ⟨rfl, hv0⟩
    obtain ⟨hd0, hg0⟩ := bcell_ hv0
    have hzv0 := lt_ext hv0 HZ.out
    replace HZ := hid hzv0
    go_wp2
    go_ret
    exact ⟨ret_bool E.out.symm, (by repeat (first | with_reducible assumption | with_reducible exact Ext.refl _ | with_reducible apply Ext.drewN | with_reducible apply Ext.drew | with_reducible apply Ext.alloc | with_reducible refine Ext.set ?_ (by first | (simp; done) | (simp; omega)) _ | with_reducible refine Ext.next ?_ (by with_reducible assumption)))⟩
  cases c1 : valB ops by_ ops.length
  · have E := hid (EB.trans (by rw [c0, c1] <;> rfl))
    have C0 := hid c0
    have C1 := hid c1
    clear c0 c1
    go_wp2_with fail
    refine (implValue ⟨pc, len, A, c, ops, 4, bx, by_, bk⟩ bx ops.length _ (h.ext (by repeat (first | with_reducible assumption | with_reducible exact Ext.refl _ | with_reducible apply Ext.drewN | with_reducible apply Ext.drew | with_reducible apply Ext.alloc | with_reducible refine Ext.set ?_ (by first | (simp; done) | (simp; omega)) _ | with_reducible refine Ext.next ?_ (by with_reducible assumption)))) (Nat.le_refl _) (by simp only; omega) C0.out).mono ?_
    rintro e v0 ⟨rfl, hv0⟩
    obtain ⟨hd0, hg0⟩ := bcell_ hv0
    have hzv0 := lt_ext hv0 HZ.out
    replace HZ := hid hzv0
    go_wp2_with fail
    refine (implValue ⟨pc, len, A, c, ops, 4, bx, by_, bk⟩ by_ ops.length _ (h.ext (by repeat (first | with_reducible assumption | with_reducible exact Ext.refl _ | with_reducible apply Ext.drewN | with_reducible apply Ext.drew | with_reducible apply Ext.alloc | with_reducible refine Ext.set ?_ (by first | (simp; done) | (simp; omega)) _ | with_reducible refine Ext.next ?_ (by with_reducible assumption)))) (Nat.le_refl _) (by simp only; omega) C1.out).mono ?_
    rintro e v1 ⟨rfl, hv1⟩
    obtain ⟨hd1, hg1⟩ := bcell_ hv1
    have hzv1 := lt_ext hv1 HZ.out
    replace HZ := hid hzv1
    go_wp2
    go_ret
    exact ⟨ret_bool E.out.symm, (by repeat (first | with_reducible assumption | with_reducible exact Ext.refl _ | with_reducible apply Ext.drewN | with_reducible apply Ext.drew | with_reducible apply Ext.alloc | with_reducible refine Ext.set ?_ (by first | (simp; done) | (simp; omega)) _ | with_reducible refine Ext.next ?_ (by with_reducible assumption)))⟩
  cases c2 : wrdOk bk
  · have E := hid (EB.trans (by rw [c0, c1, c2] <;> rfl))
    have C0 := hid c0
    have C1 := hid c1
    have C2 := hid c2
    clear c0 c1 c2
    go_wp2_with fail
    refine (implValue ⟨pc, len, A, c, ops, 4, bx, by_, bk⟩ bx ops.length _ (h.ext (by repeat (first | with_reducible assumption | with_reducible exact Ext.refl _ | with_reducible apply Ext.drewN | with_reducible apply Ext.drew | with_reducible apply Ext.alloc | with_reducible refine Ext.set ?_ (by first | (simp; done) | (simp; omega)) _ | with_reducible refine Ext.next ?_ (by with_reducible assumption)))) (Nat.le_refl _) (by simp only; omega) C0.out).mono ?_
    rintro e v0 ⟨rfl, hv0⟩
    obtain ⟨hd0, hg0⟩ := bcell_ hv0
    have hzv0 := lt_ext hv0 HZ.out
    replace HZ := hid hzv0
    go_wp2_with fail
    refine (implValue ⟨pc, len, A, c, ops, 4, bx, by_, bk⟩ by_ ops.length _ (h.ext (by repeat (first | with_reducible assumption | with_reducible exact Ext.refl _ | with_reducible apply Ext.drewN | with_reducible apply Ext.drew | with_reducible apply Ext.alloc | with_reducible refine Ext.set ?_ (by first | (simp; done) | (simp; omega)) _ | with_reducible refine Ext.next ?_ (by with_reducible assumption)))) (Nat.le_refl _) (by simp only; omega) C1.out).mono ?_
    rintro e v1 ⟨rfl, hv1⟩
    obtain ⟨hd1, hg1⟩ := bcell_ hv1
    have hzv1 := lt_ext hv1 HZ.out
    replace HZ := hid hzv1
    go_wp2_with fail
    refine (implWrdOk _ _).mono ?_
    rintro e w' ⟨rfl, rfl⟩
    rw [C2.out]
    go_wp2
    go_ret
    exact ⟨ret_bool E.out.symm, (by repeat (first | with_reducible assumption | with_reducible exact Ext.refl _ | with_reducible apply Ext.drewN | with_reducible apply Ext.drew | with_reducible apply Ext.alloc | with_reducible refine Ext.set ?_ (by first | (simp; done) | (simp; omega)) _ | with_reducible refine Ext.next ?_ (by with_reducible assumption)))⟩
  have E := hid (EB.trans (by rw [c0, c1, c2] <;> rfl))
  have C0 := hid c0
  have C1 := hid c1
  have C2 := hid c2
  clear c0 c1 c2
  go_wp2_with fail
  refine (implValue ⟨pc, len, A, c, ops, 4, bx, by_, bk⟩ bx ops.length _ (h.ext (by repeat (first | with_reducible assumption | with_reducible exact Ext.refl _ | with_reducible apply Ext.drewN | with_reducible apply Ext.drew | with_reducible apply Ext.alloc | with_reducible refine Ext.set ?_ (by first | (simp; done) | (simp; omega)) _ | with_reducible refine Ext.next ?_ (by with_reducible assumption)))) (Nat.le_refl _) (by simp only; omega) C0.out).mono ?_
  rintro e v0 ⟨rfl, hv0⟩
  obtain ⟨hd0, hg0⟩ := bcell_ hv0
  have hzv0 := lt_ext hv0 HZ.out
  replace HZ := hid hzv0
  go_wp2_with fail
  refine (implValue ⟨pc, len, A, c, ops, 4, bx, by_, bk⟩ by_ ops.length _ (h.ext (by repeat (first | with_reducible assumption | with_reducible exact Ext.refl _ | with_reducible apply Ext.drewN | with_reducible apply Ext.drew | with_reducible apply Ext.alloc | with_reducible refine Ext.set ?_ (by first | (simp; done) | (simp; omega)) _ | with_reducible refine Ext.next ?_ (by with_reducible assumption)))) (Nat.le_refl _) (by simp only; omega) C1.out).mono ?_
  rintro e v1 ⟨rfl, hv1⟩
  obtain ⟨hd1, hg1⟩ := bcell_ hv1
  have hzv1 := lt_ext hv1 HZ.out
  replace HZ := hid hzv1
  go_wp2_with fail
  refine (implWrdOk _ _).mono ?_
  rintro e w' ⟨rfl, rfl⟩
  rw [C2.out]
  go_wp2
  go_ret
  exact ⟨ret_bool E.out.symm, (by repeat (first | with_reducible assumption | with_reducible exact Ext.refl _ | with_reducible apply Ext.drewN | with_reducible apply Ext.drew | with_reducible apply Ext.alloc | with_reducible refine Ext.set ?_ (by first | (simp; done) | (simp; omega)) _ | with_reducible refine Ext.next ?_ (by with_reducible assumption)))⟩

set_option maxRecDepth 10000 in
theorem specEnd4 (pc len : Int) (A : Option Addr) (c : Nat) (ops : List Op5) (bx by_ bk : Int) (w : World) (h : ROp5 63 w A ops) (hl : ops.length ≤ 48) :
    Calls Try.prog 37 #[Bk.val ⟨pc, len, A, c, ops, 4, bx, by_, bk⟩] w fun e w' => e = .returned (.bool (endB ops 4 bx by_ bk)) ∧ Ext w w' := by
  have EB : endB ops 4 bx by_ bk = (valB ops bx ops.length && (valB ops by_ ops.length && wrdOk bk)) := rfl
  unfold Bk.val Bk.cells
  simp only
  go_enter Try.func37, Try.ntmps37
  cases c0 : valB ops bx ops.length
  · have E := hid (EB.trans (by rw [c0] <;> rfl))
    have C0 := hid c0
    clear c0
    go_wp2_with fail
    refine (specVal _ _ ops bx ops.length _ (h.ext (by repeat (first | with_reducible assumption | with_reducible exact Ext.refl _ | with_reducible apply Ext.drewN | with_reducible apply Ext.drew | with_reducible apply Ext.alloc | with_reducible refine Ext.set ?_ (by first | (simp; done) | (simp; omega)) _ | with_reducible refine Ext.next ?_ (by with_reducible assumption)))) (Nat.le_refl _) (by omega) C0.out).mono ?_
    rintro e w' ⟨rfl, rfl⟩
    go_wp2
    go_ret
    exact ⟨ret_bool E.out.symm, (by repeat (first | with_reducible assumption | with_reducible exact Ext.refl _ | with_reducible apply Ext.drewN | with_reducible apply Ext.drew | with_reducible apply Ext.alloc | with_reducible refine Ext.set ?_ (by first | (simp; done) | (simp; omega)) _ | with_reducible refine Ext.next ?_ (by with_reducible assumption)))⟩
  cases c1 : valB ops by_ ops.length
  · have E := hid (EB.trans (by rw [c0, c1] <;> rfl))
    have C0 := hid c0
    have C1 := hid c1
    clear c0 c1
    go_wp2_with fail
    refine (specVal _ _ ops bx ops.length _ (h.ext (by repeat (first | with_reducible assumption | with_reducible exact Ext.refl _ | with_reducible apply Ext.drewN | with_reducible apply Ext.drew | with_reducible apply Ext.alloc | with_reducible refine Ext.set ?_ (by first | (simp; done) | (simp; omega)) _ | with_reducible refine Ext.next ?_ (by with_reducible assumption)))) (Nat.le_refl _) (by omega) C0.out).mono ?_
    rintro e w' ⟨rfl, rfl⟩
    go_wp2_with fail
    refine (specVal _ _ ops by_ ops.length _ (h.ext (by repeat (first | with_reducible assumption | with_reducible exact Ext.refl _ | with_reducible apply Ext.drewN | with_reducible apply Ext.drew | with_reducible apply Ext.alloc | with_reducible refine Ext.set ?_ (by first | (simp; done) | (simp; omega)) _ | with_reducible refine Ext.next ?_ (by with_reducible assumption)))) (Nat.le_refl _) (by omega) C1.out).mono ?_
    rintro e w' ⟨rfl, rfl⟩
    go_wp2
    go_ret
    exact ⟨ret_bool E.out.symm, (by repeat (first | with_reducible assumption | with_reducible exact Ext.refl _ | with_reducible apply Ext.drewN | with_reducible apply Ext.drew | with_reducible apply Ext.alloc | with_reducible refine Ext.set ?_ (by first | (simp; done) | (simp; omega)) _ | with_reducible refine Ext.next ?_ (by with_reducible assumption)))⟩
  cases c2 : wrdOk bk
  · have E := hid (EB.trans (by rw [c0, c1, c2] <;> rfl))
    have C0 := hid c0
    have C1 := hid c1
    have C2 := hid c2
    clear c0 c1 c2
    go_wp2_with fail
    refine (specVal _ _ ops bx ops.length _ (h.ext (by repeat (first | with_reducible assumption | with_reducible exact Ext.refl _ | with_reducible apply Ext.drewN | with_reducible apply Ext.drew | with_reducible apply Ext.alloc | with_reducible refine Ext.set ?_ (by first | (simp; done) | (simp; omega)) _ | with_reducible refine Ext.next ?_ (by with_reducible assumption)))) (Nat.le_refl _) (by omega) C0.out).mono ?_
    rintro e w' ⟨rfl, rfl⟩
    go_wp2_with fail
    refine (specVal _ _ ops by_ ops.length _ (h.ext (by repeat (first | with_reducible assumption | with_reducible exact Ext.refl _ | with_reducible apply Ext.drewN | with_reducible apply Ext.drew | with_reducible apply Ext.alloc | with_reducible refine Ext.set ?_ (by first | (simp; done) | (simp; omega)) _ | with_reducible refine Ext.next ?_ (by with_reducible assumption)))) (Nat.le_refl _) (by omega) C1.out).mono ?_
    rintro e w' ⟨rfl, rfl⟩
    go_wp2_with fail
    refine (specWrdOk _ _).mono ?_
    rintro e w' ⟨rfl, rfl⟩
    rw [C2.out]
    go_wp2
    go_ret
    exact ⟨ret_bool E.out.symm, (by repeat (first | with_reducible assumption | with_reducible exact Ext.refl _ | with_reducible apply Ext.drewN | with_reducible apply Ext.drew | with_reducible apply Ext.alloc | with_reducible refine Ext.set ?_ (by first | (simp; done) | (simp; omega)) _ | with_reducible refine Ext.next ?_ (by with_reducible assumption)))⟩
  have E := hid (EB.trans (by rw [c0, c1, c2] <;> rfl))
  have C0 := hid c0
  have C1 := hid c1
  have C2 := hid c2
  clear c0 c1 c2
  go_wp2_with fail
  refine (specVal _ _ ops bx ops.length _ (h.ext (by repeat (first | with_reducible assumption | with_reducible exact Ext.refl _ | with_reducible apply Ext.drewN | with_reducible apply Ext.drew | with_reducible apply Ext.alloc | with_reducible refine Ext.set ?_ (by first | (simp; done) | (simp; omega)) _ | with_reducible refine Ext.next ?_ (by with_reducible assumption)))) (Nat.le_refl _) (by omega) C0.out).mono ?_
  rintro e w' ⟨rfl, rfl⟩
  go_wp2_with fail
  refine (specVal _ _ ops by_ ops.length _ (h.ext (by repeat (first | with_reducible assumption | with_reducible exact Ext.refl _ | with_reducible apply Ext.drewN | with_reducible apply Ext.drew | with_reducible apply Ext.alloc | with_reducible refine Ext.set ?_ (by first | (simp; done) | (simp; omega)) _ | with_reducible refine Ext.next ?_ (by with_reducible assumption)))) (Nat.le_refl _) (by omega) C1.out).mono ?_
  rintro e w' ⟨rfl, rfl⟩
  go_wp2_with fail
  refine (specWrdOk _ _).mono ?_
  rintro e w' ⟨rfl, rfl⟩
  rw [C2.out]
  go_wp2
  go_ret
  exact ⟨ret_bool E.out.symm, (by repeat (first | with_reducible assumption | with_reducible exact Ext.refl _ | with_reducible apply Ext.drewN | with_reducible apply Ext.drew | with_reducible apply Ext.alloc | with_reducible refine Ext.set ?_ (by first | (simp; done) | (simp; omega)) _ | with_reducible refine Ext.next ?_ (by with_reducible assumption)))⟩

set_option maxRecDepth 10000 in
theorem implEndOk (b : Bk) (w : World) (h : RBk 63 w b) (hl : b.ops.length ≤ 48) :
    Calls Try.prog 40 #[b.val] w fun e w' => e = .returned (.bool (endB b.ops b.end_ b.x b.y b.k)) ∧ Ext w w' := by
  obtain ⟨pc, len, A, c, ops, end_, bx, by_, bk⟩ := b
  unfold RBk at h
  simp only at h hl ⊢
  cases hc : inB end_ 1 4
  · have C := hid hc
    have E := hid (show endB ops end_ bx by_ bk = false by unfold endB; rw [hc]; rfl)
    clear hc
    unfold Bk.val Bk.cells
    simp only
    go_enter Try.func40, Try.ntmps40
    go_wp2_with fail
    refine (implEndHas ⟨pc, len, A, c, ops, end_, bx, by_, bk⟩ _).mono ?_
    rintro e w1 ⟨rfl, hw1⟩
    go_upto_region 2 with fail
    try simp only [List.append_eq, List.cons_append, List.nil_append]
    obtain ⟨hc1, hf1⟩ := bcell_ hw1
    have hz1 : w.heap.size < w1.heap.size := by have := hw1.size; simp at this; omega
    generalize (end_ != 1) = u1
    generalize decide (3 ≤ end_) = u2
    generalize (end_ != 2) = u3
    go_wp2_with fail
    refine (implIn _ _ _ _).mono ?_
    rintro e w' ⟨rfl, rfl⟩
    rw [C.out]
    go_wp2
    go_ret
    exact ⟨ret_bool E.out.symm, (by repeat (first | with_reducible assumption | with_reducible exact Ext.refl _ | with_reducible apply Ext.drewN | with_reducible apply Ext.drew | with_reducible apply Ext.alloc | with_reducible refine Ext.set ?_ (by first | (simp; done) | (simp; omega)) _ | with_reducible refine Ext.next ?_ (by with_reducible assumption)))⟩
  · rcases kinds4 hc with rfl | rfl | rfl | rfl
    · exact implEnd1 pc len A c ops bx by_ bk w h hl
    · exact implEnd2 pc len A c ops bx by_ bk w h hl
    · exact implEnd3 pc len A c ops bx by_ bk w h hl
    · exact implEnd4 pc len A c ops bx by_ bk w h hl
theorem specEndOk (b : Bk) (w : World) (h : RBk 63 w b) (hl : b.ops.length ≤ 48) :
    Calls Try.prog 37 #[b.val] w fun e w' => e = .returned (.bool (endB b.ops b.end_ b.x b.y b.k)) ∧ Ext w w' := by
  obtain ⟨pc, len, A, c, ops, end_, bx, by_, bk⟩ := b
  unfold RBk at h
  simp only at h hl ⊢
  cases hc : inB end_ 1 4
  · have E := hid (show endB ops end_ bx by_ bk = false by unfold endB; rw [hc]; rfl)
    have hne : ¬ (1 ≤ end_ ∧ end_ ≤ 4) := fun e => by unfold inB at hc; simp at hc; omega
    have K1 : (end_ == 1) = false := by rw [beq_eq_false_iff_ne]; omega
    have K2 : (end_ == 2) = false := by rw [beq_eq_false_iff_ne]; omega
    have K3 : (end_ == 3) = false := by rw [beq_eq_false_iff_ne]; omega
    have K4 : (end_ == 4) = false := by rw [beq_eq_false_iff_ne]; omega
    clear hc hne
    unfold Bk.val Bk.cells
    simp only
    go_enter Try.func37, Try.ntmps37
    go_wp2
    go_ret
    exact ⟨ret_bool E.out.symm, (by repeat (first | with_reducible assumption | with_reducible exact Ext.refl _ | with_reducible apply Ext.drewN | with_reducible apply Ext.drew | with_reducible apply Ext.alloc | with_reducible refine Ext.set ?_ (by first | (simp; done) | (simp; omega)) _ | with_reducible refine Ext.next ?_ (by with_reducible assumption)))⟩
  · rcases kinds4 hc with rfl | rfl | rfl | rfl
    · exact specEnd1 pc len A c ops bx by_ bk w h hl
    · exact specEnd2 pc len A c ops bx by_ bk w h hl
    · exact specEnd3 pc len A c ops bx by_ bk w h hl
    · exact specEnd4 pc len A c ops bx by_ bk w h hl
end Go.Proofs.Ytcjeeggffeoilaa
