/- Whether an operation of a piece of code is ok: the program's opOk, kind by kind. Conditions: lengths that a machine can hold. -/
import Derived.Test.YtcjeeggffeoilaaRN
namespace Go.Proofs.Ytcjeeggffeoilaa
open Go Go.RowKit
set_option linter.unusedVariables false
set_option linter.unusedSimpArgs false

set_option maxRecDepth 10000 in
set_option maxHeartbeats 2000000 in
theorem implOp1 (b : Bk) (n : Nat) (ox oy ok oat : Int) (w : World) (h : RBk 63 w b) (ho : b.ops[n]? = some ⟨1, ox, oy, ok, oat⟩) (hlen : 1 ≤ b.len ∧ b.len ≤ 8) (hl : b.ops.length ≤ 48) :
    Calls Try.prog 39 #[b.val, .int .i64 n] w fun e w' => e = .returned (.bool (opB b.ops b.len n ⟨1, ox, oy, ok, oat⟩)) ∧ Ext w w' := by
  obtain ⟨pc, len, A, c, ops, end_, bx, by_, bk⟩ := b
  unfold RBk at h
  unfold Bk.val Bk.cells
  simp only at h ho hlen hl ⊢
  obtain ⟨hn, _⟩ := List.getElem?_eq_some_iff.1 ho
  obtain ⟨g, q, p, rfl, hb, hp, d0, d1, d2, d3, d4⟩ := h.at_ hn
  rw [ho] at hp
  injection hp with hp
  subst hp
  simp only at d0 d1 d2 d3 d4
  have EB : opB ops len n ⟨1, ox, oy, ok, oat⟩ = ((ox == 0) && ((oy == 0) && (kfit 1 ok && (oat == 0)))) := rfl
  have CK : Hid (inB 1 1 8 = true) := hid rfl
  go_enter Try.func39, Try.ntmps39
  go_wp2_with fail
  refine (implIn _ _ _ _).mono ?_
  rintro e w' ⟨rfl, rfl⟩
  rw [CK.out]
  go_wp2_with fail
  refine (implHas ⟨1, ox, oy, ok, oat⟩ _ CK.out).mono ?_
  rintro e w2 ⟨rfl, hw2⟩
  simp only [show hasX 1 = false from rfl, show hasY 1 = false from rfl, show hasK 1 = true from rfl, show hasA 1 = false from rfl]
  go_upto_region 5 with fail
  obtain ⟨hc2, hf2⟩ := bcell_ hw2
  have hz2 : w.heap.size + 1 < w2.heap.size := by have := hw2.size; simp at this; omega
  have hy2 : w.heap.size < w2.heap.size := by omega
  have q0 : w2.cell? ⟨w.heap.size + 1, 0, none⟩ = some (.int .i64 1) := by go_simp
  have q1 : w2.cell? ⟨w.heap.size + 1, 1, none⟩ = some (.int .i64 ox) := by go_simp
  have q2 : w2.cell? ⟨w.heap.size + 1, 2, none⟩ = some (.int .i64 oy) := by go_simp
  have q3 : w2.cell? ⟨w.heap.size + 1, 3, none⟩ = some (.int .i64 ok) := by go_simp
  have q4 : w2.cell? ⟨w.heap.size + 1, 4, none⟩ = some (.int .i64 oat) := by go_simp
  have p0 : w2.cell? ⟨w.heap.size, 0, none⟩ = some (.int .i64 pc) := by go_simp
  have p1 : w2.cell? ⟨w.heap.size, 1, none⟩ = some (.int .i64 len) := by go_simp
  have p2 : w2.cell? ⟨w.heap.size, 2, none⟩ = some (.slice (some ⟨g, q, none⟩) ops.length c) := by go_simp
  have p3 : w2.cell? ⟨w.heap.size, 3, none⟩ = some (.int .i64 end_) := by go_simp
  have p4 : w2.cell? ⟨w.heap.size, 4, none⟩ = some (.int .i64 bx) := by go_simp
  have p5 : w2.cell? ⟨w.heap.size, 5, none⟩ = some (.int .i64 by_) := by go_simp
  have p6 : w2.cell? ⟨w.heap.size, 6, none⟩ = some (.int .i64 bk) := by go_simp
  have HX2 : Hid (Ext w w2) := hid (by repeat (first | with_reducible assumption | with_reducible exact Ext.refl _ | with_reducible apply Ext.drewN | with_reducible apply Ext.drew | with_reducible apply Ext.alloc | with_reducible refine Ext.set ?_ (by first | (simp; done) | (simp; omega)) _ | with_reducible refine Ext.next ?_ (by with_reducible assumption)))
  clear hc2 hf2 hw2 d0 d1 d2 d3 d4
  refine kfits (w.heap.size + 1) 1 ok _ _ _ rfl rfl q0 q3 (by omega) ?_
  intro a' w3 hdf hsz hold h10 hw3
  obtain ⟨t', df'⟩ := a'
  simp only at hdf hsz hold h10
  subst hdf
  have e := arr_back kslots hold (hsz.trans rfl)
  simp only [kslots, List.foldl_cons, List.foldl_nil] at e
  have h10' : t'.getD 10 undef = .bool (kfit 1 ok) := by rw [Array.getD_eq_getD_getElem?, h10]; rfl
  rw [h10'] at e
  generalize t'.getD 27 undef = u27 at e
  generalize t'.getD 28 undef = u28 at e
  generalize t'.getD 29 undef = u29 at e
  generalize t'.getD 30 undef = u30 at e
  generalize t'.getD 31 undef = u31 at e
  generalize t'.getD 32 undef = u32 at e
  generalize t'.getD 33 undef = u33 at e
  generalize t'.getD 34 undef = u34 at e
  generalize t'.getD 35 undef = u35 at e
  generalize t'.getD 36 undef = u36 at e
  generalize t'.getD 37 undef = u37 at e
  generalize t'.getD 38 undef = u38 at e
  generalize t'.getD 39 undef = u39 at e
  generalize t'.getD 40 undef = u40 at e
  generalize t'.getD 41 undef = u41 at e
  generalize t'.getD 42 undef = u42 at e
  generalize t'.getD 43 undef = u43 at e
  clear hsz hold h10 h10'
  simp only [List.setIfInBounds_toArray, List.set_cons_zero, List.set_cons_succ] at e
  rw [e]
  clear e
  have HX : Hid (Ext w w3) := hid (HX2.out.next hw3)
  replace q0 := keep hw3 q0
  replace q1 := keep hw3 q1
  replace q2 := keep hw3 q2
  replace q3 := keep hw3 q3
  replace q4 := keep hw3 q4
  replace p0 := keep hw3 p0
  replace p1 := keep hw3 p1
  replace p2 := keep hw3 p2
  replace p3 := keep hw3 p3
  replace p4 := keep hw3 p4
  replace p5 := keep hw3 p5
  replace p6 := keep hw3 p6
  have HZ := hid (lt_ext hw3 hz2)
  have hz3 := HZ.out
  have hy3 : w.heap.size < w3.heap.size := by omega
  clear hw3 hz2 hy2 HX2
  go_upto_region 6 with fail
  simp only [List.append_eq, List.cons_append, List.nil_append]
  cases c0 : (ox == 0)
  · have E := hid (EB.trans (by rw [c0] <;> rfl))
    have hX := HX.out
    go_wp2
    go_ret
    exact ⟨ret_bool E.out.symm, (by repeat (first | with_reducible assumption | with_reducible exact Ext.refl _ | with_reducible apply Ext.drewN | with_reducible apply Ext.drew | with_reducible apply Ext.alloc | with_reducible refine Ext.set ?_ (by first | (simp; done) | (simp; omega)) _ | with_reducible refine Ext.next ?_ (by with_reducible assumption)))⟩
  cases c1 : (oy == 0)
  · have E := hid (EB.trans (by rw [c0, c1] <;> rfl))
    have hX := HX.out
    go_wp2
    go_ret
    exact ⟨ret_bool E.out.symm, (by repeat (first | with_reducible assumption | with_reducible exact Ext.refl _ | with_reducible apply Ext.drewN | with_reducible apply Ext.drew | with_reducible apply Ext.alloc | with_reducible refine Ext.set ?_ (by first | (simp; done) | (simp; omega)) _ | with_reducible refine Ext.next ?_ (by with_reducible assumption)))⟩
  cases c2 : kfit 1 ok
  · have E := hid (EB.trans (by rw [c0, c1, c2] <;> rfl))
    have hX := HX.out
    go_wp2
    go_ret
    exact ⟨ret_bool E.out.symm, (by repeat (first | with_reducible assumption | with_reducible exact Ext.refl _ | with_reducible apply Ext.drewN | with_reducible apply Ext.drew | with_reducible apply Ext.alloc | with_reducible refine Ext.set ?_ (by first | (simp; done) | (simp; omega)) _ | with_reducible refine Ext.next ?_ (by with_reducible assumption)))⟩
  cases c3 : (oat == 0)
  · have E := hid (EB.trans (by rw [c0, c1, c2, c3] <;> rfl))
    have hX := HX.out
    go_wp2
    go_ret
    exact ⟨ret_bool E.out.symm, (by repeat (first | with_reducible assumption | with_reducible exact Ext.refl _ | with_reducible apply Ext.drewN | with_reducible apply Ext.drew | with_reducible apply Ext.alloc | with_reducible refine Ext.set ?_ (by first | (simp; done) | (simp; omega)) _ | with_reducible refine Ext.next ?_ (by with_reducible assumption)))⟩
  have E := hid (EB.trans (by rw [c0, c1, c2, c3] <;> rfl))
  have hX := HX.out
  go_wp2
  go_ret
  exact ⟨ret_bool E.out.symm, (by repeat (first | with_reducible assumption | with_reducible exact Ext.refl _ | with_reducible apply Ext.drewN | with_reducible apply Ext.drew | with_reducible apply Ext.alloc | with_reducible refine Ext.set ?_ (by first | (simp; done) | (simp; omega)) _ | with_reducible refine Ext.next ?_ (by with_reducible assumption)))⟩

set_option maxRecDepth 10000 in
set_option maxHeartbeats 2000000 in
theorem implOp2 (b : Bk) (n : Nat) (ox oy ok oat : Int) (w : World) (h : RBk 63 w b) (ho : b.ops[n]? = some ⟨2, ox, oy, ok, oat⟩) (hlen : 1 ≤ b.len ∧ b.len ≤ 8) (hl : b.ops.length ≤ 48) :
    Calls Try.prog 39 #[b.val, .int .i64 n] w fun e w' => e = .returned (.bool (opB b.ops b.len n ⟨2, ox, oy, ok, oat⟩)) ∧ Ext w w' := by
  obtain ⟨pc, len, A, c, ops, end_, bx, by_, bk⟩ := b
  unfold RBk at h
  unfold Bk.val Bk.cells
  simp only at h ho hlen hl ⊢
  obtain ⟨hn, _⟩ := List.getElem?_eq_some_iff.1 ho
  obtain ⟨g, q, p, rfl, hb, hp, d0, d1, d2, d3, d4⟩ := h.at_ hn
  rw [ho] at hp
  injection hp with hp
  subst hp
  simp only at d0 d1 d2 d3 d4
  have EB : opB ops len n ⟨2, ox, oy, ok, oat⟩ = ((ox == 0) && ((oy == 0) && (kfit 2 ok && (oat == 0)))) := rfl
  have CK : Hid (inB 2 1 8 = true) := hid rfl
  go_enter Try.func39, Try.ntmps39
  go_wp2_with fail
  refine (implIn _ _ _ _).mono ?_
  rintro e w' ⟨rfl, rfl⟩
  rw [CK.out]
  go_wp2_with fail
  refine (implHas ⟨2, ox, oy, ok, oat⟩ _ CK.out).mono ?_
  rintro e w2 ⟨rfl, hw2⟩
  simp only [show hasX 2 = false from rfl, show hasY 2 = false from rfl, show hasK 2 = true from rfl, show hasA 2 = false from rfl]
  go_upto_region 5 with fail
  obtain ⟨hc2, hf2⟩ := bcell_ hw2
  have hz2 : w.heap.size + 1 < w2.heap.size := by have := hw2.size; simp at this; omega
  have hy2 : w.heap.size < w2.heap.size := by omega
  have q0 : w2.cell? ⟨w.heap.size + 1, 0, none⟩ = some (.int .i64 2) := by go_simp
  have q1 : w2.cell? ⟨w.heap.size + 1, 1, none⟩ = some (.int .i64 ox) := by go_simp
  have q2 : w2.cell? ⟨w.heap.size + 1, 2, none⟩ = some (.int .i64 oy) := by go_simp
  have q3 : w2.cell? ⟨w.heap.size + 1, 3, none⟩ = some (.int .i64 ok) := by go_simp
  have q4 : w2.cell? ⟨w.heap.size + 1, 4, none⟩ = some (.int .i64 oat) := by go_simp
  have p0 : w2.cell? ⟨w.heap.size, 0, none⟩ = some (.int .i64 pc) := by go_simp
  have p1 : w2.cell? ⟨w.heap.size, 1, none⟩ = some (.int .i64 len) := by go_simp
  have p2 : w2.cell? ⟨w.heap.size, 2, none⟩ = some (.slice (some ⟨g, q, none⟩) ops.length c) := by go_simp
  have p3 : w2.cell? ⟨w.heap.size, 3, none⟩ = some (.int .i64 end_) := by go_simp
  have p4 : w2.cell? ⟨w.heap.size, 4, none⟩ = some (.int .i64 bx) := by go_simp
  have p5 : w2.cell? ⟨w.heap.size, 5, none⟩ = some (.int .i64 by_) := by go_simp
  have p6 : w2.cell? ⟨w.heap.size, 6, none⟩ = some (.int .i64 bk) := by go_simp
  have HX2 : Hid (Ext w w2) := hid (by repeat (first | with_reducible assumption | with_reducible exact Ext.refl _ | with_reducible apply Ext.drewN | with_reducible apply Ext.drew | with_reducible apply Ext.alloc | with_reducible refine Ext.set ?_ (by first | (simp; done) | (simp; omega)) _ | with_reducible refine Ext.next ?_ (by with_reducible assumption)))
  clear hc2 hf2 hw2 d0 d1 d2 d3 d4
  refine kfits (w.heap.size + 1) 2 ok _ _ _ rfl rfl q0 q3 (by omega) ?_
  intro a' w3 hdf hsz hold h10 hw3
  obtain ⟨t', df'⟩ := a'
  simp only at hdf hsz hold h10
  subst hdf
  have e := arr_back kslots hold (hsz.trans rfl)
  simp only [kslots, List.foldl_cons, List.foldl_nil] at e
  have h10' : t'.getD 10 undef = .bool (kfit 2 ok) := by rw [Array.getD_eq_getD_getElem?, h10]; rfl
  rw [h10'] at e
  generalize t'.getD 27 undef = u27 at e
  generalize t'.getD 28 undef = u28 at e
  generalize t'.getD 29 undef = u29 at e
  generalize t'.getD 30 undef = u30 at e
  generalize t'.getD 31 undef = u31 at e
  generalize t'.getD 32 undef = u32 at e
  generalize t'.getD 33 undef = u33 at e
  generalize t'.getD 34 undef = u34 at e
  generalize t'.getD 35 undef = u35 at e
  generalize t'.getD 36 undef = u36 at e
  generalize t'.getD 37 undef = u37 at e
  generalize t'.getD 38 undef = u38 at e
  generalize t'.getD 39 undef = u39 at e
  generalize t'.getD 40 undef = u40 at e
  generalize t'.getD 41 undef = u41 at e
  generalize t'.getD 42 undef = u42 at e
  generalize t'.getD 43 undef = u43 at e
  clear hsz hold h10 h10'
  simp only [List.setIfInBounds_toArray, List.set_cons_zero, List.set_cons_succ] at e
  rw [e]
  clear e
  have HX : Hid (Ext w w3) := hid (HX2.out.next hw3)
  replace q0 := keep hw3 q0
  replace q1 := keep hw3 q1
  replace q2 := keep hw3 q2
  replace q3 := keep hw3 q3
  replace q4 := keep hw3 q4
  replace p0 := keep hw3 p0
  replace p1 := keep hw3 p1
  replace p2 := keep hw3 p2
  replace p3 := keep hw3 p3
  replace p4 := keep hw3 p4
  replace p5 := keep hw3 p5
  replace p6 := keep hw3 p6
  have HZ := hid (lt_ext hw3 hz2)
  have hz3 := HZ.out
  have hy3 : w.heap.size < w3.heap.size := by omega
  clear hw3 hz2 hy2 HX2
  go_upto_region 6 with fail
  simp only [List.append_eq, List.cons_append, List.nil_append]
  cases c0 : (ox == 0)
  · have E := hid (EB.trans (by rw [c0] <;> rfl))
    have hX := HX.out
    go_wp2
    go_ret
    exact ⟨ret_bool E.out.symm, (by repeat (first | with_reducible assumption | with_reducible exact Ext.refl _ | with_reducible apply Ext.drewN | with_reducible apply Ext.drew | with_reducible apply Ext.alloc | with_reducible refine Ext.set ?_ (by first | (simp; done) | (simp; omega)) _ | with_reducible refine Ext.next ?_ (by with_reducible assumption)))⟩
  cases c1 : (oy == 0)
  · have E := hid (EB.trans (by rw [c0, c1] <;> rfl))
    have hX := HX.out
    go_wp2
    go_ret
    exact ⟨ret_bool E.out.symm, (by repeat (first | with_reducible assumption | with_reducible exact Ext.refl _ | with_reducible apply Ext.drewN | with_reducible apply Ext.drew | with_reducible apply Ext.alloc | with_reducible refine Ext.set ?_ (by first | (simp; done) | (simp; omega)) _ | with_reducible refine Ext.next ?_ (by with_reducible assumption)))⟩
  cases c2 : kfit 2 ok
  · have E := hid (EB.trans (by rw [c0, c1, c2] <;> rfl))
    have hX := HX.out
    go_wp2
    go_ret
    exact ⟨ret_bool E.out.symm, (by repeat (first | with_reducible assumption | with_reducible exact Ext.refl _ | with_reducible apply Ext.drewN | with_reducible apply Ext.drew | with_reducible apply Ext.alloc | with_reducible refine Ext.set ?_ (by first | (simp; done) | (simp; omega)) _ | with_reducible refine Ext.next ?_ (by with_reducible assumption)))⟩
  cases c3 : (oat == 0)
  · have E := hid (EB.trans (by rw [c0, c1, c2, c3] <;> rfl))
    have hX := HX.out
    go_wp2
    go_ret
    exact ⟨ret_bool E.out.symm, (by repeat (first | with_reducible assumption | with_reducible exact Ext.refl _ | with_reducible apply Ext.drewN | with_reducible apply Ext.drew | with_reducible apply Ext.alloc | with_reducible refine Ext.set ?_ (by first | (simp; done) | (simp; omega)) _ | with_reducible refine Ext.next ?_ (by with_reducible assumption)))⟩
  have E := hid (EB.trans (by rw [c0, c1, c2, c3] <;> rfl))
  have hX := HX.out
  go_wp2
  go_ret
  exact ⟨ret_bool E.out.symm, (by repeat (first | with_reducible assumption | with_reducible exact Ext.refl _ | with_reducible apply Ext.drewN | with_reducible apply Ext.drew | with_reducible apply Ext.alloc | with_reducible refine Ext.set ?_ (by first | (simp; done) | (simp; omega)) _ | with_reducible refine Ext.next ?_ (by with_reducible assumption)))⟩

set_option maxRecDepth 10000 in
set_option maxHeartbeats 2000000 in
theorem implOp3 (b : Bk) (n : Nat) (ox oy ok oat : Int) (w : World) (h : RBk 63 w b) (ho : b.ops[n]? = some ⟨3, ox, oy, ok, oat⟩) (hlen : 1 ≤ b.len ∧ b.len ≤ 8) (hl : b.ops.length ≤ 48) :
    Calls Try.prog 39 #[b.val, .int .i64 n] w fun e w' => e = .returned (.bool (opB b.ops b.len n ⟨3, ox, oy, ok, oat⟩)) ∧ Ext w w' := by
  obtain ⟨pc, len, A, c, ops, end_, bx, by_, bk⟩ := b
  unfold RBk at h
  unfold Bk.val Bk.cells
  simp only at h ho hlen hl ⊢
  obtain ⟨hn, _⟩ := List.getElem?_eq_some_iff.1 ho
  obtain ⟨g, q, p, rfl, hb, hp, d0, d1, d2, d3, d4⟩ := h.at_ hn
  rw [ho] at hp
  injection hp with hp
  subst hp
  simp only at d0 d1 d2 d3 d4
  have EB : opB ops len n ⟨3, ox, oy, ok, oat⟩ = (valB ops ox n && (valB ops oy n && (kfit 3 ok && (oat == 0)))) := rfl
  have CK : Hid (inB 3 1 8 = true) := hid rfl
  go_enter Try.func39, Try.ntmps39
  go_wp2_with fail
  refine (implIn _ _ _ _).mono ?_
  rintro e w' ⟨rfl, rfl⟩
  rw [CK.out]
  go_wp2_with fail
  refine (implHas ⟨3, ox, oy, ok, oat⟩ _ CK.out).mono ?_
  rintro e w2 ⟨rfl, hw2⟩
  simp only [show hasX 3 = true from rfl, show hasY 3 = true from rfl, show hasK 3 = true from rfl, show hasA 3 = false from rfl]
  go_upto_region 5 with fail
  obtain ⟨hc2, hf2⟩ := bcell_ hw2
  have hz2 : w.heap.size + 1 < w2.heap.size := by have := hw2.size; simp at this; omega
  have hy2 : w.heap.size < w2.heap.size := by omega
  have q0 : w2.cell? ⟨w.heap.size + 1, 0, none⟩ = some (.int .i64 3) := by go_simp
  have q1 : w2.cell? ⟨w.heap.size + 1, 1, none⟩ = some (.int .i64 ox) := by go_simp
  have q2 : w2.cell? ⟨w.heap.size + 1, 2, none⟩ = some (.int .i64 oy) := by go_simp
  have q3 : w2.cell? ⟨w.heap.size + 1, 3, none⟩ = some (.int .i64 ok) := by go_simp
  have q4 : w2.cell? ⟨w.heap.size + 1, 4, none⟩ = some (.int .i64 oat) := by go_simp
  have p0 : w2.cell? ⟨w.heap.size, 0, none⟩ = some (.int .i64 pc) := by go_simp
  have p1 : w2.cell? ⟨w.heap.size, 1, none⟩ = some (.int .i64 len) := by go_simp
  have p2 : w2.cell? ⟨w.heap.size, 2, none⟩ = some (.slice (some ⟨g, q, none⟩) ops.length c) := by go_simp
  have p3 : w2.cell? ⟨w.heap.size, 3, none⟩ = some (.int .i64 end_) := by go_simp
  have p4 : w2.cell? ⟨w.heap.size, 4, none⟩ = some (.int .i64 bx) := by go_simp
  have p5 : w2.cell? ⟨w.heap.size, 5, none⟩ = some (.int .i64 by_) := by go_simp
  have p6 : w2.cell? ⟨w.heap.size, 6, none⟩ = some (.int .i64 bk) := by go_simp
  have HX2 : Hid (Ext w w2) := hid (by repeat (first | with_reducible assumption | with_reducible exact Ext.refl _ | with_reducible apply Ext.drewN | with_reducible apply Ext.drew | with_reducible apply Ext.alloc | with_reducible refine Ext.set ?_ (by first | (simp; done) | (simp; omega)) _ | with_reducible refine Ext.next ?_ (by with_reducible assumption)))
  clear hc2 hf2 hw2 d0 d1 d2 d3 d4
  refine kfits (w.heap.size + 1) 3 ok _ _ _ rfl rfl q0 q3 (by omega) ?_
  intro a' w3 hdf hsz hold h10 hw3
  obtain ⟨t', df'⟩ := a'
  simp only at hdf hsz hold h10
  subst hdf
  have e := arr_back kslots hold (hsz.trans rfl)
  simp only [kslots, List.foldl_cons, List.foldl_nil] at e
  have h10' : t'.getD 10 undef = .bool (kfit 3 ok) := by rw [Array.getD_eq_getD_getElem?, h10]; rfl
  rw [h10'] at e
  generalize t'.getD 27 undef = u27 at e
  generalize t'.getD 28 undef = u28 at e
  generalize t'.getD 29 undef = u29 at e
  generalize t'.getD 30 undef = u30 at e
  generalize t'.getD 31 undef = u31 at e
  generalize t'.getD 32 undef = u32 at e
  generalize t'.getD 33 undef = u33 at e
  generalize t'.getD 34 undef = u34 at e
  generalize t'.getD 35 undef = u35 at e
  generalize t'.getD 36 undef = u36 at e
  generalize t'.getD 37 undef = u37 at e
  generalize t'.getD 38 undef = u38 at e
  generalize t'.getD 39 undef = u39 at e
  generalize t'.getD 40 undef = u40 at e
  generalize t'.getD 41 undef = u41 at e
  generalize t'.getD 42 undef = u42 at e
  generalize t'.getD 43 undef = u43 at e
  clear hsz hold h10 h10'
  simp only [List.setIfInBounds_toArray, List.set_cons_zero, List.set_cons_succ] at e
  rw [e]
  clear e
  have HX : Hid (Ext w w3) := hid (HX2.out.next hw3)
  replace q0 := keep hw3 q0
  replace q1 := keep hw3 q1
  replace q2 := keep hw3 q2
  replace q3 := keep hw3 q3
  replace q4 := keep hw3 q4
  replace p0 := keep hw3 p0
  replace p1 := keep hw3 p1
  replace p2 := keep hw3 p2
  replace p3 := keep hw3 p3
  replace p4 := keep hw3 p4
  replace p5 := keep hw3 p5
  replace p6 := keep hw3 p6
  have HZ := hid (lt_ext hw3 hz2)
  have hz3 := HZ.out
  have hy3 : w.heap.size < w3.heap.size := by omega
  clear hw3 hz2 hy2 HX2
  go_upto_region 6 with fail
  simp only [List.append_eq, List.cons_append, List.nil_append]
  cases c0 : valB ops ox n
  · have E := hid (EB.trans (by rw [c0] <;> rfl))
    have C0 := hid c0
    clear c0
    go_wp2_with fail
    refine (implValue ⟨pc, len, some ⟨g, q, none⟩, c, ops, end_, bx, by_, bk⟩ ox n _ (h.ext (HX.out.next (by repeat (first | with_reducible assumption | with_reducible exact Ext.refl _ | with_reducible apply Ext.drewN | with_reducible apply Ext.drew | with_reducible apply Ext.alloc | with_reducible refine Ext.set ?_ (by first | (simp; done) | (simp; omega)) _ | with_reducible refine Ext.next ?_ (by with_reducible assumption))))) (by simp only; omega) (by simp only; omega) C0.out).mono ?_
    rintro e v0 ⟨rfl, hv0⟩
    obtain ⟨hc0, hf0⟩ := bcell_ hv0
    have hzv0 := lt_ext hv0 HZ.out
    replace HZ := hid hzv0
    have hyv0 : w.heap.size < v0.heap.size := by omega
    have hX := HX.out
    go_wp2
    go_ret
    exact ⟨ret_bool E.out.symm, (by repeat (first | with_reducible assumption | with_reducible exact Ext.refl _ | with_reducible apply Ext.drewN | with_reducible apply Ext.drew | with_reducible apply Ext.alloc | with_reducible refine Ext.set ?_ (by first | (simp; done) | (simp; omega)) _ | with_reducible refine Ext.next ?_ (by with_reducible assumption)))⟩
  cases c1 : valB ops oy n
  · have E := hid (EB.trans (by rw [c0, c1] <;> rfl))
    have C0 := hid c0
    have C1 := hid c1
    clear c0 c1
    go_wp2_with fail
    refine (implValue ⟨pc, len, some ⟨g, q, none⟩, c, ops, end_, bx, by_, bk⟩ ox n _ (h.ext (HX.out.next (by repeat (first | with_reducible assumption | with_reducible exact Ext.refl _ | with_reducible apply Ext.drewN | with_reducible apply Ext.drew | with_reducible apply Ext.alloc | with_reducible refine Ext.set ?_ (by first | (simp; done) | (simp; omega)) _ | with_reducible refine Ext.next ?_ (by with_reducible assumption))))) (by simp only; omega) (by simp only; omega) C0.out).mono ?_
    rintro e v0 ⟨rfl, hv0⟩
    obtain ⟨hc0, hf0⟩ := bcell_ hv0
    have hzv0 := lt_ext hv0 HZ.out
    replace HZ := hid hzv0
    have hyv0 : w.heap.size < v0.heap.size := by omega
    go_wp2_with fail
    refine (implValue ⟨pc, len, some ⟨g, q, none⟩, c, ops, end_, bx, by_, bk⟩ oy n _ (h.ext (HX.out.next (by repeat (first | with_reducible assumption | with_reducible exact Ext.refl _ | with_reducible apply Ext.drewN | with_reducible apply Ext.drew | with_reducible apply Ext.alloc | with_reducible refine Ext.set ?_ (by first | (simp; done) | (simp; omega)) _ | with_reducible refine Ext.next ?_ (by with_reducible assumption))))) (by simp only; omega) (by simp only; omega) C1.out).mono ?_
    rintro e v1 ⟨rfl, hv1⟩
    obtain ⟨hc1, hf1⟩ := bcell_ hv1
    have hzv1 := lt_ext hv1 HZ.out
    replace HZ := hid hzv1
    have hyv1 : w.heap.size < v1.heap.size := by omega
    have hX := HX.out
    go_wp2
    go_ret
    exact ⟨ret_bool E.out.symm, (by repeat (first | with_reducible assumption | with_reducible exact Ext.refl _ | with_reducible apply Ext.drewN | with_reducible apply Ext.drew | with_reducible apply Ext.alloc | with_reducible refine Ext.set ?_ (by first | (simp; done) | (simp; omega)) _ | with_reducible refine Ext.next ?_ (by with_reducible assumption)))⟩
  cases c2 : kfit 3 ok
  · have E := hid (EB.trans (by rw [c0, c1, c2] <;> rfl))
    have C0 := hid c0
    have C1 := hid c1
    clear c0 c1
    go_wp2_with fail
    refine (implValue ⟨pc, len, some ⟨g, q, none⟩, c, ops, end_, bx, by_, bk⟩ ox n _ (h.ext (HX.out.next (by repeat (first | with_reducible assumption | with_reducible exact Ext.refl _ | with_reducible apply Ext.drewN | with_reducible apply Ext.drew | with_reducible apply Ext.alloc | with_reducible refine Ext.set ?_ (by first | (simp; done) | (simp; omega)) _ | with_reducible refine Ext.next ?_ (by with_reducible assumption))))) (by simp only; omega) (by simp only; omega) C0.out).mono ?_
    rintro e v0 ⟨rfl, hv0⟩
    obtain ⟨hc0, hf0⟩ := bcell_ hv0
    have hzv0 := lt_ext hv0 HZ.out
    replace HZ := hid hzv0
    have hyv0 : w.heap.size < v0.heap.size := by omega
    go_wp2_with fail
    refine (implValue ⟨pc, len, some ⟨g, q, none⟩, c, ops, end_, bx, by_, bk⟩ oy n _ (h.ext (HX.out.next (by repeat (first | with_reducible assumption | with_reducible exact Ext.refl _ | with_reducible apply Ext.drewN | with_reducible apply Ext.drew | with_reducible apply Ext.alloc | with_reducible refine Ext.set ?_ (by first | (simp; done) | (simp; omega)) _ | with_reducible refine Ext.next ?_ (by with_reducible assumption))))) (by simp only; omega) (by simp only; omega) C1.out).mono ?_
    rintro e v1 ⟨rfl, hv1⟩
    obtain ⟨hc1, hf1⟩ := bcell_ hv1
    have hzv1 := lt_ext hv1 HZ.out
    replace HZ := hid hzv1
    have hyv1 : w.heap.size < v1.heap.size := by omega
    have hX := HX.out
    go_wp2
    go_ret
    exact ⟨ret_bool E.out.symm, (by repeat (first | with_reducible assumption | with_reducible exact Ext.refl _ | with_reducible apply Ext.drewN | with_reducible apply Ext.drew | with_reducible apply Ext.alloc | with_reducible refine Ext.set ?_ (by first | (simp; done) | (simp; omega)) _ | with_reducible refine Ext.next ?_ (by with_reducible assumption)))⟩
  cases c3 : (oat == 0)
  · have E := hid (EB.trans (by rw [c0, c1, c2, c3] <;> rfl))
    have C0 := hid c0
    have C1 := hid c1
    clear c0 c1
    go_wp2_with fail
    refine (implValue ⟨pc, len, some ⟨g, q, none⟩, c, ops, end_, bx, by_, bk⟩ ox n _ (h.ext (HX.out.next (by repeat (first | with_reducible assumption | with_reducible exact Ext.refl _ | with_reducible apply Ext.drewN | with_reducible apply Ext.drew | with_reducible apply Ext.alloc | with_reducible refine Ext.set ?_ (by first | (simp; done) | (simp; omega)) _ | with_reducible refine Ext.next ?_ (by with_reducible assumption))))) (by simp only; omega) (by simp only; omega) C0.out).mono ?_
    rintro e v0 ⟨rfl, hv0⟩
    obtain ⟨hc0, hf0⟩ := bcell_ hv0
    have hzv0 := lt_ext hv0 HZ.out
    replace HZ := hid hzv0
    have hyv0 : w.heap.size < v0.heap.size := by omega
    go_wp2_with fail
    refine (implValue ⟨pc, len, some ⟨g, q, none⟩, c, ops, end_, bx, by_, bk⟩ oy n _ (h.ext (HX.out.next (by repeat (first | with_reducible assumption | with_reducible exact Ext.refl _ | with_reducible apply Ext.drewN | with_reducible apply Ext.drew | with_reducible apply Ext.alloc | with_reducible refine Ext.set ?_ (by first | (simp; done) | (simp; omega)) _ | with_reducible refine Ext.next ?_ (by with_reducible assumption))))) (by simp only; omega) (by simp only; omega) C1.out).mono ?_
    rintro e v1 ⟨rfl, hv1⟩
    obtain ⟨hc1, hf1⟩ := bcell_ hv1
    have hzv1 := lt_ext hv1 HZ.out
    replace HZ := hid hzv1
    have hyv1 : w.heap.size < v1.heap.size := by omega
    have hX := HX.out
    go_wp2
    go_ret
    exact ⟨ret_bool E.out.symm, (by repeat (first | with_reducible assumption | with_reducible exact Ext.refl _ | with_reducible apply Ext.drewN | with_reducible apply Ext.drew | with_reducible apply Ext.alloc | with_reducible refine Ext.set ?_ (by first | (simp; done) | (simp; omega)) _ | with_reducible refine Ext.next ?_ (by with_reducible assumption)))⟩
  have E := hid (EB.trans (by rw [c0, c1, c2, c3] <;> rfl))
  have C0 := hid c0
  have C1 := hid c1
  clear c0 c1
  go_wp2_with fail
  refine (implValue ⟨pc, len, some ⟨g, q, none⟩, c, ops, end_, bx, by_, bk⟩ ox n _ (h.ext (HX.out.next (by repeat (first | with_reducible assumption | with_reducible exact Ext.refl _ | with_reducible apply Ext.drewN | with_reducible apply Ext.drew | with_reducible apply Ext.alloc | with_reducible refine Ext.set ?_ (by first | (simp; done) | (simp; omega)) _ | with_reducible refine Ext.next ?_ (by with_reducible assumption))))) (by simp only; omega) (by simp only; omega) C0.out).mono ?_
  rintro e v0 ⟨rfl, hv0⟩
  obtain ⟨hc0, hf0⟩ := bcell_ hv0
  have hzv0 := lt_ext hv0 HZ.out
  replace HZ := hid hzv0
  have hyv0 : w.heap.size < v0.heap.size := by omega
  go_wp2_with fail
  refine (implValue ⟨pc, len, some ⟨g, q, none⟩, c, ops, end_, bx, by_, bk⟩ oy n _ (h.ext (HX.out.next (by repeat (first | with_reducible assumption | with_reducible exact Ext.refl _ | with_reducible apply Ext.drewN | with_reducible apply Ext.drew | with_reducible apply Ext.alloc | with_reducible refine Ext.set ?_ (by first | (simp; done) | (simp; omega)) _ | with_reducible refine Ext.next ?_ (by with_reducible assumption))))) (by simp only; omega) (by simp only; omega) C1.out).mono ?_
  rintro e v1 ⟨rfl, hv1⟩
  obtain ⟨hc1, hf1⟩ := bcell_ hv1
  have hzv1 := lt_ext hv1 HZ.out
  replace HZ := hid hzv1
  have hyv1 : w.heap.size < v1.heap.size := by omega
  have hX := HX.out
  go_wp2
  go_ret
  exact ⟨ret_bool E.out.symm, (by repeat (first | with_reducible assumption | with_reducible exact Ext.refl _ | with_reducible apply Ext.drewN | with_reducible apply Ext.drew | with_reducible apply Ext.alloc | with_reducible refine Ext.set ?_ (by first | (simp; done) | (simp; omega)) _ | with_reducible refine Ext.next ?_ (by with_reducible assumption)))⟩

set_option maxRecDepth 10000 in
set_option maxHeartbeats 2000000 in
theorem implOp4 (b : Bk) (n : Nat) (ox oy ok oat : Int) (w : World) (h : RBk 63 w b) (ho : b.ops[n]? = some ⟨4, ox, oy, ok, oat⟩) (hlen : 1 ≤ b.len ∧ b.len ≤ 8) (hl : b.ops.length ≤ 48) :
    Calls Try.prog 39 #[b.val, .int .i64 n] w fun e w' => e = .returned (.bool (opB b.ops b.len n ⟨4, ox, oy, ok, oat⟩)) ∧ Ext w w' := by
  obtain ⟨pc, len, A, c, ops, end_, bx, by_, bk⟩ := b
  unfold RBk at h
  unfold Bk.val Bk.cells
  simp only at h ho hlen hl ⊢
  obtain ⟨hn, _⟩ := List.getElem?_eq_some_iff.1 ho
  obtain ⟨g, q, p, rfl, hb, hp, d0, d1, d2, d3, d4⟩ := h.at_ hn
  rw [ho] at hp
  injection hp with hp
  subst hp
  simp only at d0 d1 d2 d3 d4
  have EB : opB ops len n ⟨4, ox, oy, ok, oat⟩ = (valB ops ox n && ((oy == 0) && ((ok == 0) && inB oat 0 (len - 1)))) := rfl
  have CK : Hid (inB 4 1 8 = true) := hid rfl
  go_enter Try.func39, Try.ntmps39
  go_wp2_with fail
  refine (implIn _ _ _ _).mono ?_
  rintro e w' ⟨rfl, rfl⟩
  rw [CK.out]
  go_wp2_with fail
  refine (implHas ⟨4, ox, oy, ok, oat⟩ _ CK.out).mono ?_
  rintro e w2 ⟨rfl, hw2⟩
  simp only [show hasX 4 = true from rfl, show hasY 4 = false from rfl, show hasK 4 = false from rfl, show hasA 4 = true from rfl]
  go_upto_region 5 with fail
  obtain ⟨hc2, hf2⟩ := bcell_ hw2
  have hz2 : w.heap.size + 1 < w2.heap.size := by have := hw2.size; simp at this; omega
  have hy2 : w.heap.size < w2.heap.size := by omega
  have q0 : w2.cell? ⟨w.heap.size + 1, 0, none⟩ = some (.int .i64 4) := by go_simp
  have q1 : w2.cell? ⟨w.heap.size + 1, 1, none⟩ = some (.int .i64 ox) := by go_simp
  have q2 : w2.cell? ⟨w.heap.size + 1, 2, none⟩ = some (.int .i64 oy) := by go_simp
  have q3 : w2.cell? ⟨w.heap.size + 1, 3, none⟩ = some (.int .i64 ok) := by go_simp
  have q4 : w2.cell? ⟨w.heap.size + 1, 4, none⟩ = some (.int .i64 oat) := by go_simp
  have p0 : w2.cell? ⟨w.heap.size, 0, none⟩ = some (.int .i64 pc) := by go_simp
  have p1 : w2.cell? ⟨w.heap.size, 1, none⟩ = some (.int .i64 len) := by go_simp
  have p2 : w2.cell? ⟨w.heap.size, 2, none⟩ = some (.slice (some ⟨g, q, none⟩) ops.length c) := by go_simp
  have p3 : w2.cell? ⟨w.heap.size, 3, none⟩ = some (.int .i64 end_) := by go_simp
  have p4 : w2.cell? ⟨w.heap.size, 4, none⟩ = some (.int .i64 bx) := by go_simp
  have p5 : w2.cell? ⟨w.heap.size, 5, none⟩ = some (.int .i64 by_) := by go_simp
  have p6 : w2.cell? ⟨w.heap.size, 6, none⟩ = some (.int .i64 bk) := by go_simp
  have HX2 : Hid (Ext w w2) := hid (by repeat (first | with_reducible assumption | with_reducible exact Ext.refl _ | with_reducible apply Ext.drewN | with_reducible apply Ext.drew | with_reducible apply Ext.alloc | with_reducible refine Ext.set ?_ (by first | (simp; done) | (simp; omega)) _ | with_reducible refine Ext.next ?_ (by with_reducible assumption)))
  clear hc2 hf2 hw2 d0 d1 d2 d3 d4
  refine kfits (w.heap.size + 1) 4 ok _ _ _ rfl rfl q0 q3 (by omega) ?_
  intro a' w3 hdf hsz hold h10 hw3
  obtain ⟨t', df'⟩ := a'
  simp only at hdf hsz hold h10
  subst hdf
  have e := arr_back kslots hold (hsz.trans rfl)
  simp only [kslots, List.foldl_cons, List.foldl_nil] at e
  have h10' : t'.getD 10 undef = .bool (kfit 4 ok) := by rw [Array.getD_eq_getD_getElem?, h10]; rfl
  rw [h10'] at e
  generalize t'.getD 27 undef = u27 at e
  generalize t'.getD 28 undef = u28 at e
  generalize t'.getD 29 undef = u29 at e
  generalize t'.getD 30 undef = u30 at e
  generalize t'.getD 31 undef = u31 at e
  generalize t'.getD 32 undef = u32 at e
  generalize t'.getD 33 undef = u33 at e
  generalize t'.getD 34 undef = u34 at e
  generalize t'.getD 35 undef = u35 at e
  generalize t'.getD 36 undef = u36 at e
  generalize t'.getD 37 undef = u37 at e
  generalize t'.getD 38 undef = u38 at e
  generalize t'.getD 39 undef = u39 at e
  generalize t'.getD 40 undef = u40 at e
  generalize t'.getD 41 undef = u41 at e
  generalize t'.getD 42 undef = u42 at e
  generalize t'.getD 43 undef = u43 at e
  clear hsz hold h10 h10'
  simp only [List.setIfInBounds_toArray, List.set_cons_zero, List.set_cons_succ] at e
  rw [e]
  clear e
  have HX : Hid (Ext w w3) := hid (HX2.out.next hw3)
  replace q0 := keep hw3 q0
  replace q1 := keep hw3 q1
  replace q2 := keep hw3 q2
  replace q3 := keep hw3 q3
  replace q4 := keep hw3 q4
  replace p0 := keep hw3 p0
  replace p1 := keep hw3 p1
  replace p2 := keep hw3 p2
  replace p3 := keep hw3 p3
  replace p4 := keep hw3 p4
  replace p5 := keep hw3 p5
  replace p6 := keep hw3 p6
  have HZ := hid (lt_ext hw3 hz2)
  have hz3 := HZ.out
  have hy3 : w.heap.size < w3.heap.size := by omega
  clear hw3 hz2 hy2 HX2
  go_upto_region 6 with fail
  simp only [List.append_eq, List.cons_append, List.nil_append]
  cases c0 : valB ops ox n
  · have E := hid (EB.trans (by rw [c0] <;> rfl))
    have C0 := hid c0
    clear c0
    go_wp2_with fail
    refine (implValue ⟨pc, len, some ⟨g, q, none⟩, c, ops, end_, bx, by_, bk⟩ ox n _ (h.ext (HX.out.next (by repeat (first | with_reducible assumption | with_reducible exact Ext.refl _ | with_reducible apply Ext.drewN | with_reducible apply Ext.drew | with_reducible apply Ext.alloc | with_reducible refine Ext.set ?_ (by first | (simp; done) | (simp; omega)) _ | with_reducible refine Ext.next ?_ (by with_reducible assumption))))) (by simp only; omega) (by simp only; omega) C0.out).mono ?_
    rintro e v0 ⟨rfl, hv0⟩
    obtain ⟨hc0, hf0⟩ := bcell_ hv0
    have hzv0 := lt_ext hv0 HZ.out
    replace HZ := hid hzv0
    have hyv0 : w.heap.size < v0.heap.size := by omega
    have hX := HX.out
    go_wp2
    go_ret
    exact ⟨ret_bool E.out.symm, (by repeat (first | with_reducible assumption | with_reducible exact Ext.refl _ | with_reducible apply Ext.drewN | with_reducible apply Ext.drew | with_reducible apply Ext.alloc | with_reducible refine Ext.set ?_ (by first | (simp; done) | (simp; omega)) _ | with_reducible refine Ext.next ?_ (by with_reducible assumption)))⟩
  cases c1 : (oy == 0)
  · have E := hid (EB.trans (by rw [c0, c1] <;> rfl))
    have C0 := hid c0
    clear c0
    go_wp2_with fail
    refine (implValue ⟨pc, len, some ⟨g, q, none⟩, c, ops, end_, bx, by_, bk⟩ ox n _ (h.ext (HX.out.next (by repeat (first | with_reducible assumption | with_reducible exact Ext.refl _ | with_reducible apply Ext.drewN | with_reducible apply Ext.drew | with_reducible apply Ext.alloc | with_reducible refine Ext.set ?_ (by first | (simp; done) | (simp; omega)) _ | with_reducible refine Ext.next ?_ (by with_reducible assumption))))) (by simp only; omega) (by simp only; omega) C0.out).mono ?_
    rintro e v0 ⟨rfl, hv0⟩
    obtain ⟨hc0, hf0⟩ := bcell_ hv0
    have hzv0 := lt_ext hv0 HZ.out
    replace HZ := hid hzv0
    have hyv0 : w.heap.size < v0.heap.size := by omega
    have hX := HX.out
    go_wp2
    go_ret
    exact ⟨ret_bool E.out.symm, (by repeat (first | with_reducible assumption | with_reducible exact Ext.refl _ | with_reducible apply Ext.drewN | with_reducible apply Ext.drew | with_reducible apply Ext.alloc | with_reducible refine Ext.set ?_ (by first | (simp; done) | (simp; omega)) _ | with_reducible refine Ext.next ?_ (by with_reducible assumption)))⟩
  cases c2 : (ok == 0)
  · have E := hid (EB.trans (by rw [c0, c1, c2] <;> rfl))
    have C0 := hid c0
    clear c0
    go_wp2_with fail
    refine (implValue ⟨pc, len, some ⟨g, q, none⟩, c, ops, end_, bx, by_, bk⟩ ox n _ (h.ext (HX.out.next (by repeat (first | with_reducible assumption | with_reducible exact Ext.refl _ | with_reducible apply Ext.drewN | with_reducible apply Ext.drew | with_reducible apply Ext.alloc | with_reducible refine Ext.set ?_ (by first | (simp; done) | (simp; omega)) _ | with_reducible refine Ext.next ?_ (by with_reducible assumption))))) (by simp only; omega) (by simp only; omega) C0.out).mono ?_
    rintro e v0 ⟨rfl, hv0⟩
    obtain ⟨hc0, hf0⟩ := bcell_ hv0
    have hzv0 := lt_ext hv0 HZ.out
    replace HZ := hid hzv0
    have hyv0 : w.heap.size < v0.heap.size := by omega
    have hX := HX.out
    go_wp2
    go_ret
    exact ⟨ret_bool E.out.symm, (by repeat (first | with_reducible assumption | with_reducible exact Ext.refl _ | with_reducible apply Ext.drewN | with_reducible apply Ext.drew | with_reducible apply Ext.alloc | with_reducible refine Ext.set ?_ (by first | (simp; done) | (simp; omega)) _ | with_reducible refine Ext.next ?_ (by with_reducible assumption)))⟩
  cases c3 : inB oat 0 (len - 1)
  · have E := hid (EB.trans (by rw [c0, c1, c2, c3] <;> rfl))
    have C0 := hid c0
    have C3 := hid c3
    clear c0 c3
    go_wp2_with fail
    refine (implValue ⟨pc, len, some ⟨g, q, none⟩, c, ops, end_, bx, by_, bk⟩ ox n _ (h.ext (HX.out.next (by repeat (first | with_reducible assumption | with_reducible exact Ext.refl _ | with_reducible apply Ext.drewN | with_reducible apply Ext.drew | with_reducible apply Ext.alloc | with_reducible refine Ext.set ?_ (by first | (simp; done) | (simp; omega)) _ | with_reducible refine Ext.next ?_ (by with_reducible assumption))))) (by simp only; omega) (by simp only; omega) C0.out).mono ?_
    rintro e v0 ⟨rfl, hv0⟩
    obtain ⟨hc0, hf0⟩ := bcell_ hv0
    have hzv0 := lt_ext hv0 HZ.out
    replace HZ := hid hzv0
    have hyv0 : w.heap.size < v0.heap.size := by omega
    go_wp2_with fail
    refine (implIn _ _ _ _).mono ?_
    rintro e w' ⟨rfl, rfl⟩
    rw [C3.out]
    have hX := HX.out
    go_wp2
    go_ret
    exact ⟨ret_bool E.out.symm, (by repeat (first | with_reducible assumption | with_reducible exact Ext.refl _ | with_reducible apply Ext.drewN | with_reducible apply Ext.drew | with_reducible apply Ext.alloc | with_reducible refine Ext.set ?_ (by first | (simp; done) | (simp; omega)) _ | with_reducible refine Ext.next ?_ (by with_reducible assumption)))⟩
  have E := hid (EB.trans (by rw [c0, c1, c2, c3] <;> rfl))
  have C0 := hid c0
  have C3 := hid c3
  clear c0 c3
  go_wp2_with fail
  refine (implValue ⟨pc, len, some ⟨g, q, none⟩, c, ops, end_, bx, by_, bk⟩ ox n _ (h.ext (HX.out.next (by repeat (first | with_reducible assumption | with_reducible exact Ext.refl _ | with_reducible apply Ext.drewN | with_reducible apply Ext.drew | with_reducible apply Ext.alloc | with_reducible refine Ext.set ?_ (by first | (simp; done) | (simp; omega)) _ | with_reducible refine Ext.next ?_ (by with_reducible assumption))))) (by simp only; omega) (by simp only; omega) C0.out).mono ?_
  rintro e v0 ⟨rfl, hv0⟩
  obtain ⟨hc0, hf0⟩ := bcell_ hv0
  have hzv0 := lt_ext hv0 HZ.out
  replace HZ := hid hzv0
  have hyv0 : w.heap.size < v0.heap.size := by omega
  go_wp2_with fail
  refine (implIn _ _ _ _).mono ?_
  rintro e w' ⟨rfl, rfl⟩
  rw [C3.out]
  have hX := HX.out
  go_wp2
  go_ret
  exact ⟨ret_bool E.out.symm, (by repeat (first | with_reducible assumption | with_reducible exact Ext.refl _ | with_reducible apply Ext.drewN | with_reducible apply Ext.drew | with_reducible apply Ext.alloc | with_reducible refine Ext.set ?_ (by first | (simp; done) | (simp; omega)) _ | with_reducible refine Ext.next ?_ (by with_reducible assumption)))⟩

set_option maxRecDepth 10000 in
set_option maxHeartbeats 2000000 in
theorem implOp5 (b : Bk) (n : Nat) (ox oy ok oat : Int) (w : World) (h : RBk 63 w b) (ho : b.ops[n]? = some ⟨5, ox, oy, ok, oat⟩) (hlen : 1 ≤ b.len ∧ b.len ≤ 8) (hl : b.ops.length ≤ 48) :
    Calls Try.prog 39 #[b.val, .int .i64 n] w fun e w' => e = .returned (.bool (opB b.ops b.len n ⟨5, ox, oy, ok, oat⟩)) ∧ Ext w w' := by
  obtain ⟨pc, len, A, c, ops, end_, bx, by_, bk⟩ := b
  unfold RBk at h
  unfold Bk.val Bk.cells
  simp only at h ho hlen hl ⊢
  obtain ⟨hn, _⟩ := List.getElem?_eq_some_iff.1 ho
  obtain ⟨g, q, p, rfl, hb, hp, d0, d1, d2, d3, d4⟩ := h.at_ hn
  rw [ho] at hp
  injection hp with hp
  subst hp
  simp only at d0 d1 d2 d3 d4
  have EB : opB ops len n ⟨5, ox, oy, ok, oat⟩ = (valB ops ox n && (valB ops oy n && ((ok == 0) && inB oat 0 (len - 1)))) := rfl
  have CK : Hid (inB 5 1 8 = true) := hid rfl
  go_enter Try.func39, Try.ntmps39
  go_wp2_with fail
  refine (implIn _ _ _ _).mono ?_
  rintro e w' ⟨rfl, rfl⟩
  rw [CK.out]
  go_wp2_with fail
  refine (implHas ⟨5, ox, oy, ok, oat⟩ _ CK.out).mono ?_
  rintro e w2 ⟨rfl, hw2⟩
  simp only [show hasX 5 = true from rfl, show hasY 5 = true from rfl, show hasK 5 = false from rfl, show hasA 5 = true from rfl]
  go_upto_region 5 with fail
  obtain ⟨hc2, hf2⟩ := bcell_ hw2
  have hz2 : w.heap.size + 1 < w2.heap.size := by have := hw2.size; simp at this; omega
  have hy2 : w.heap.size < w2.heap.size := by omega
  have q0 : w2.cell? ⟨w.heap.size + 1, 0, none⟩ = some (.int .i64 5) := by go_simp
  have q1 : w2.cell? ⟨w.heap.size + 1, 1, none⟩ = some (.int .i64 ox) := by go_simp
  have q2 : w2.cell? ⟨w.heap.size + 1, 2, none⟩ = some (.int .i64 oy) := by go_simp
  have q3 : w2.cell? ⟨w.heap.size + 1, 3, none⟩ = some (.int .i64 ok) := by go_simp
  have q4 : w2.cell? ⟨w.heap.size + 1, 4, none⟩ = some (.int .i64 oat) := by go_simp
  have p0 : w2.cell? ⟨w.heap.size, 0, none⟩ = some (.int .i64 pc) := by go_simp
  have p1 : w2.cell? ⟨w.heap.size, 1, none⟩ = some (.int .i64 len) := by go_simp
  have p2 : w2.cell? ⟨w.heap.size, 2, none⟩ = some (.slice (some ⟨g, q, none⟩) ops.length c) := by go_simp
  have p3 : w2.cell? ⟨w.heap.size, 3, none⟩ = some (.int .i64 end_) := by go_simp
  have p4 : w2.cell? ⟨w.heap.size, 4, none⟩ = some (.int .i64 bx) := by go_simp
  have p5 : w2.cell? ⟨w.heap.size, 5, none⟩ = some (.int .i64 by_) := by go_simp
  have p6 : w2.cell? ⟨w.heap.size, 6, none⟩ = some (.int .i64 bk) := by go_simp
  have HX2 : Hid (Ext w w2) := hid (by repeat (first | with_reducible assumption | with_reducible exact Ext.refl _ | with_reducible apply Ext.drewN | with_reducible apply Ext.drew | with_reducible apply Ext.alloc | with_reducible refine Ext.set ?_ (by first | (simp; done) | (simp; omega)) _ | with_reducible refine Ext.next ?_ (by with_reducible assumption)))
  clear hc2 hf2 hw2 d0 d1 d2 d3 d4
  refine kfits (w.heap.size + 1) 5 ok _ _ _ rfl rfl q0 q3 (by omega) ?_
  intro a' w3 hdf hsz hold h10 hw3
  obtain ⟨t', df'⟩ := a'
  simp only at hdf hsz hold h10
  subst hdf
  have e := arr_back kslots hold (hsz.trans rfl)
  simp only [kslots, List.foldl_cons, List.foldl_nil] at e
  have h10' : t'.getD 10 undef = .bool (kfit 5 ok) := by rw [Array.getD_eq_getD_getElem?, h10]; rfl
  rw [h10'] at e
  generalize t'.getD 27 undef = u27 at e
  generalize t'.getD 28 undef = u28 at e
  generalize t'.getD 29 undef = u29 at e
  generalize t'.getD 30 undef = u30 at e
  generalize t'.getD 31 undef = u31 at e
  generalize t'.getD 32 undef = u32 at e
  generalize t'.getD 33 undef = u33 at e
  generalize t'.getD 34 undef = u34 at e
  generalize t'.getD 35 undef = u35 at e
  generalize t'.getD 36 undef = u36 at e
  generalize t'.getD 37 undef = u37 at e
  generalize t'.getD 38 undef = u38 at e
  generalize t'.getD 39 undef = u39 at e
  generalize t'.getD 40 undef = u40 at e
  generalize t'.getD 41 undef = u41 at e
  generalize t'.getD 42 undef = u42 at e
  generalize t'.getD 43 undef = u43 at e
  clear hsz hold h10 h10'
  simp only [List.setIfInBounds_toArray, List.set_cons_zero, List.set_cons_succ] at e
  rw [e]
  clear e
  have HX : Hid (Ext w w3) := hid (HX2.out.next hw3)
  replace q0 := keep hw3 q0
  replace q1 := keep hw3 q1
  replace q2 := keep hw3 q2
  replace q3 := keep hw3 q3
  replace q4 := keep hw3 q4
  replace p0 := keep hw3 p0
  replace p1 := keep hw3 p1
  replace p2 := keep hw3 p2
  replace p3 := keep hw3 p3
  replace p4 := keep hw3 p4
  replace p5 := keep hw3 p5
  replace p6 := keep hw3 p6
  have HZ := hid (lt_ext hw3 hz2)
  have hz3 := HZ.out
  have hy3 : w.heap.size < w3.heap.size := by omega
  clear hw3 hz2 hy2 HX2
  go_upto_region 6 with fail
  simp only [List.append_eq, List.cons_append, List.nil_append]
  cases c0 : valB ops ox n
  · have E := hid (EB.trans (by rw [c0] <;> rfl))
    have C0 := hid c0
    clear c0
    go_wp2_with fail
    refine (implValue ⟨pc, len, some ⟨g, q, none⟩, c, ops, end_, bx, by_, bk⟩ ox n _ (h.ext (HX.out.next (by repeat (first | with_reducible assumption | with_reducible exact Ext.refl _ | with_reducible apply Ext.drewN | with_reducible apply Ext.drew | with_reducible apply Ext.alloc | with_reducible refine Ext.set ?_ (by first | (simp; done) | (simp; omega)) _ | with_reducible refine Ext.next ?_ (by with_reducible assumption))))) (by simp only; omega) (by simp only; omega) C0.out).mono ?_
    rintro e v0 ⟨rfl, hv0⟩
    obtain ⟨hc0, hf0⟩ := bcell_ hv0
    have hzv0 := lt_ext hv0 HZ.out
    replace HZ := hid hzv0
    have hyv0 : w.heap.size < v0.heap.size := by omega
    have hX := HX.out
    go_wp2
    go_ret
    exact ⟨ret_bool E.out.symm, (by repeat (first | with_reducible assumption | with_reducible exact Ext.refl _ | with_reducible apply Ext.drewN | with_reducible apply Ext.drew | with_reducible apply Ext.alloc | with_reducible refine Ext.set ?_ (by first | (simp; done) | (simp; omega)) _ | with_reducible refine Ext.next ?_ (by with_reducible assumption)))⟩
  cases c1 : valB ops oy n
  · have E := hid (EB.trans (by rw [c0, c1] <;> rfl))
    have C0 := hid c0
    have C1 := hid c1
    clear c0 c1
    go_wp2_with fail
    refine (implValue ⟨pc, len, some ⟨g, q, none⟩, c, ops, end_, bx, by_, bk⟩ ox n _ (h.ext (HX.out.next (by repeat (first | with_reducible assumption | with_reducible exact Ext.refl _ | with_reducible apply Ext.drewN | with_reducible apply Ext.drew | with_reducible apply Ext.alloc | with_reducible refine Ext.set ?_ (by first | (simp; done) | (simp; omega)) _ | with_reducible refine Ext.next ?_ (by with_reducible assumption))))) (by simp only; omega) (by simp only; omega) C0.out).mono ?_
    rintro e v0 ⟨rfl, hv0⟩
    obtain ⟨hc0, hf0⟩ := bcell_ hv0
    have hzv0 := lt_ext hv0 HZ.out
    replace HZ := hid hzv0
    have hyv0 : w.heap.size < v0.heap.size := by omega
    go_wp2_with fail
    refine (implValue ⟨pc, len, some ⟨g, q, none⟩, c, ops, end_, bx, by_, bk⟩ oy n _ (h.ext (HX.out.next (by repeat (first | with_reducible assumption | with_reducible exact Ext.refl _ | with_reducible apply Ext.drewN | with_reducible apply Ext.drew | with_reducible apply Ext.alloc | with_reducible refine Ext.set ?_ (by first | (simp; done) | (simp; omega)) _ | with_reducible refine Ext.next ?_ (by with_reducible assumption))))) (by simp only; omega) (by simp only; omega) C1.out).mono ?_
    rintro e v1 ⟨rfl, hv1⟩
    obtain ⟨hc1, hf1⟩ := bcell_ hv1
    have hzv1 := lt_ext hv1 HZ.out
    replace HZ := hid hzv1
    have hyv1 : w.heap.size < v1.heap.size := by omega
    have hX := HX.out
    go_wp2
    go_ret
    exact ⟨ret_bool E.out.symm, (by repeat (first | with_reducible assumption | with_reducible exact Ext.refl _ | with_reducible apply Ext.drewN | with_reducible apply Ext.drew | with_reducible apply Ext.alloc | with_reducible refine Ext.set ?_ (by first | (simp; done) | (simp; omega)) _ | with_reducible refine Ext.next ?_ (by with_reducible assumption)))⟩
  cases c2 : (ok == 0)
  · have E := hid (EB.trans (by rw [c0, c1, c2] <;> rfl))
    have C0 := hid c0
    have C1 := hid c1
    clear c0 c1
    go_wp2_with fail
    refine (implValue ⟨pc, len, some ⟨g, q, none⟩, c, ops, end_, bx, by_, bk⟩ ox n _ (h.ext (HX.out.next (by repeat (first | with_reducible assumption | with_reducible exact Ext.refl _ | with_reducible apply Ext.drewN | with_reducible apply Ext.drew | with_reducible apply Ext.alloc | with_reducible refine Ext.set ?_ (by first | (simp; done) | (simp; omega)) _ | with_reducible refine Ext.next ?_ (by with_reducible assumption))))) (by simp only; omega) (by simp only; omega) C0.out).mono ?_
    rintro e v0 ⟨rfl, hv0⟩
    obtain ⟨hc0, hf0⟩ := bcell_ hv0
    have hzv0 := lt_ext hv0 HZ.out
    replace HZ := hid hzv0
    have hyv0 : w.heap.size < v0.heap.size := by omega
    go_wp2_with fail
    refine (implValue ⟨pc, len, some ⟨g, q, none⟩, c, ops, end_, bx, by_, bk⟩ oy n _ (h.ext (HX.out.next (by repeat (first | with_reducible assumption | with_reducible exact Ext.refl _ | with_reducible apply Ext.drewN | with_reducible apply Ext.drew | with_reducible apply Ext.alloc | with_reducible refine Ext.set ?_ (by first | (simp; done) | (simp; omega)) _ | with_reducible refine Ext.next ?_ (by with_reducible assumption))))) (by simp only; omega) (by simp only; omega) C1.out).mono ?_
    rintro e v1 ⟨rfl, hv1⟩
    obtain ⟨hc1, hf1⟩ := bcell_ hv1
    have hzv1 := lt_ext hv1 HZ.out
    replace HZ := hid hzv1
    have hyv1 : w.heap.size < v1.heap.size := by omega
    have hX := HX.out
    go_wp2
    go_ret
    exact ⟨ret_bool E.out.symm, (by repeat (first | with_reducible assumption | with_reducible exact Ext.refl _ | with_reducible apply Ext.drewN | with_reducible apply Ext.drew | with_reducible apply Ext.alloc | with_reducible refine Ext.set ?_ (by first | (simp; done) | (simp; omega)) _ | with_reducible refine Ext.next ?_ (by with_reducible assumption)))⟩
  cases c3 : inB oat 0 (len - 1)
  · have E := hid (EB.trans (by rw [c0, c1, c2, c3] <;> rfl))
    have C0 := hid c0
    have C1 := hid c1
    have C3 := hid c3
    clear c0 c1 c3
    go_wp2_with fail
    refine (implValue ⟨pc, len, some ⟨g, q, none⟩, c, ops, end_, bx, by_, bk⟩ ox n _ (h.ext (HX.out.next (by repeat (first | with_reducible assumption | with_reducible exact Ext.refl _ | with_reducible apply Ext.drewN | with_reducible apply Ext.drew | with_reducible apply Ext.alloc | with_reducible refine Ext.set ?_ (by first | (simp; done) | (simp; omega)) _ | with_reducible refine Ext.next ?_ (by with_reducible assumption))))) (by simp only; omega) (by simp only; omega) C0.out).mono ?_
    rintro e v0 ⟨rfl, hv0⟩
    obtain ⟨hc0, hf0⟩ := bcell_ hv0
    have hzv0 := lt_ext hv0 HZ.out
    replace HZ := hid hzv0
    have hyv0 : w.heap.size < v0.heap.size := by omega
    go_wp2_with fail
    refine (implValue ⟨pc, len, some ⟨g, q, none⟩, c, ops, end_, bx, by_, bk⟩ oy n _ (h.ext (HX.out.next (by repeat (first | with_reducible assumption | with_reducible exact Ext.refl _ | with_reducible apply Ext.drewN | with_reducible apply Ext.drew | with_reducible apply Ext.alloc | with_reducible refine Ext.set ?_ (by first | (simp; done) | (simp; omega)) _ | with_reducible refine Ext.next ?_ (by with_reducible assumption))))) (by simp only; omega) (by simp only; omega) C1.out).mono ?_
    rintro e v1 ⟨rfl, hv1⟩
    obtain ⟨hc1, hf1⟩ := bcell_ hv1
    have hzv1 := lt_ext hv1 HZ.out
    replace HZ := hid hzv1
    have hyv1 : w.heap.size < v1.heap.size := by omega
    go_wp2_with fail
    refine (implIn _ _ _ _).mono ?_
    rintro e w' ⟨rfl, rfl⟩
    rw [C3.out]
    have hX := HX.out
    go_wp2
    go_ret
    exact ⟨ret_bool E.out.symm, (by repeat (first | with_reducible assumption | with_reducible exact Ext.refl _ | with_reducible apply Ext.drewN | with_reducible apply Ext.drew | with_reducible apply Ext.alloc | with_reducible refine Ext.set ?_ (by first | (simp; done) | (simp; omega)) _ | with_reducible refine Ext.next ?_ (by with_reducible assumption)))⟩
  have E := hid (EB.trans (by rw [c0, c1, c2, c3] <;> rfl))
  have C0 := hid c0
  have C1 := hid c1
  have C3 := hid c3
  clear c0 c1 c3
  go_wp2_with fail
  refine (implValue ⟨pc, len, some ⟨g, q, none⟩, c, ops, end_, bx, by_, bk⟩ ox n _ (h.ext (HX.out.next (by repeat (first | with_reducible assumption | with_reducible exact Ext.refl _ | with_reducible apply Ext.drewN | with_reducible apply Ext.drew | with_reducible apply Ext.alloc | with_reducible refine Ext.set ?_ (by first | (simp; done) | (simp; omega)) _ | with_reducible refine Ext.next ?_ (by with_reducible assumption))))) (by simp only; omega) (by simp only; omega) C0.out).mono ?_
  rintro e v0 ⟨rfl, hv0⟩
  obtain ⟨hc0, hf0⟩ := bcell_ hv0
  have hzv0 := lt_ext hv0 HZ.out
  replace HZ := hid hzv0
  have hyv0 : w.heap.size < v0.heap.size := by omega
  go_wp2_with fail
  refine (implValue ⟨pc, len, some ⟨g, q, none⟩, c, ops, end_, bx, by_, bk⟩ oy n _ (h.ext (HX.out.next (by repeat (first | with_reducible assumption | with_reducible exact Ext.refl _ | with_reducible apply Ext.drewN | with_reducible apply Ext.drew | with_reducible apply Ext.alloc | with_reducible refine Ext.set ?_ (by first | (simp; done) | (simp; omega)) _ | with_reducible refine Ext.next ?_ (by with_reducible assumption))))) (by simp only; omega) (by simp only; omega) C1.out).mono ?_
  rintro e v1 ⟨rfl, hv1⟩
  obtain ⟨hc1, hf1⟩ := bcell_ hv1
  have hzv1 := lt_ext hv1 HZ.out
  replace HZ := hid hzv1
  have hyv1 : w.heap.size < v1.heap.size := by omega
  go_wp2_with fail
  refine (implIn _ _ _ _).mono ?_
  rintro e w' ⟨rfl, rfl⟩
  rw [C3.out]
  have hX := HX.out
  go_wp2
  go_ret
  exact ⟨ret_bool E.out.symm, (by repeat (first | with_reducible assumption | with_reducible exact Ext.refl _ | with_reducible apply Ext.drewN | with_reducible apply Ext.drew | with_reducible apply Ext.alloc | with_reducible refine Ext.set ?_ (by first | (simp; done) | (simp; omega)) _ | with_reducible refine Ext.next ?_ (by with_reducible assumption)))⟩

set_option maxRecDepth 10000 in
set_option maxHeartbeats 2000000 in
theorem implOp6 (b : Bk) (n : Nat) (ox oy ok oat : Int) (w : World) (h : RBk 63 w b) (ho : b.ops[n]? = some ⟨6, ox, oy, ok, oat⟩) (hlen : 1 ≤ b.len ∧ b.len ≤ 8) (hl : b.ops.length ≤ 48) :
    Calls Try.prog 39 #[b.val, .int .i64 n] w fun e w' => e = .returned (.bool (opB b.ops b.len n ⟨6, ox, oy, ok, oat⟩)) ∧ Ext w w' := by
  obtain ⟨pc, len, A, c, ops, end_, bx, by_, bk⟩ := b
  unfold RBk at h
  unfold Bk.val Bk.cells
  simp only at h ho hlen hl ⊢
  obtain ⟨hn, _⟩ := List.getElem?_eq_some_iff.1 ho
  obtain ⟨g, q, p, rfl, hb, hp, d0, d1, d2, d3, d4⟩ := h.at_ hn
  rw [ho] at hp
  injection hp with hp
  subst hp
  simp only at d0 d1 d2 d3 d4
  have EB : opB ops len n ⟨6, ox, oy, ok, oat⟩ = ((ox == 0) && ((oy == 0) && ((ok == 0) && inB oat 0 (len - 1)))) := rfl
  have CK : Hid (inB 6 1 8 = true) := hid rfl
  go_enter Try.func39, Try.ntmps39
  go_wp2_with fail
  refine (implIn _ _ _ _).mono ?_
  rintro e w' ⟨rfl, rfl⟩
  rw [CK.out]
  go_wp2_with fail
  refine (implHas ⟨6, ox, oy, ok, oat⟩ _ CK.out).mono ?_
  rintro e w2 ⟨rfl, hw2⟩
  simp only [show hasX 6 = false from rfl, show hasY 6 = false from rfl, show hasK 6 = false from rfl, show hasA 6 = true from rfl]
  go_upto_region 5 with fail
  obtain ⟨hc2, hf2⟩ := bcell_ hw2
  have hz2 : w.heap.size + 1 < w2.heap.size := by have := hw2.size; simp at this; omega
  have hy2 : w.heap.size < w2.heap.size := by omega
  have q0 : w2.cell? ⟨w.heap.size + 1, 0, none⟩ = some (.int .i64 6) := by go_simp
  have q1 : w2.cell? ⟨w.heap.size + 1, 1, none⟩ = some (.int .i64 ox) := by go_simp
  have q2 : w2.cell? ⟨w.heap.size + 1, 2, none⟩ = some (.int .i64 oy) := by go_simp
  have q3 : w2.cell? ⟨w.heap.size + 1, 3, none⟩ = some (.int .i64 ok) := by go_simp
  have q4 : w2.cell? ⟨w.heap.size + 1, 4, none⟩ = some (.int .i64 oat) := by go_simp
  have p0 : w2.cell? ⟨w.heap.size, 0, none⟩ = some (.int .i64 pc) := by go_simp
  have p1 : w2.cell? ⟨w.heap.size, 1, none⟩ = some (.int .i64 len) := by go_simp
  have p2 : w2.cell? ⟨w.heap.size, 2, none⟩ = some (.slice (some ⟨g, q, none⟩) ops.length c) := by go_simp
  have p3 : w2.cell? ⟨w.heap.size, 3, none⟩ = some (.int .i64 end_) := by go_simp
  have p4 : w2.cell? ⟨w.heap.size, 4, none⟩ = some (.int .i64 bx) := by go_simp
  have p5 : w2.cell? ⟨w.heap.size, 5, none⟩ = some (.int .i64 by_) := by go_simp
  have p6 : w2.cell? ⟨w.heap.size, 6, none⟩ = some (.int .i64 bk) := by go_simp
  have HX2 : Hid (Ext w w2) := hid (by repeat (first | with_reducible assumption | with_reducible exact Ext.refl _ | with_reducible apply Ext.drewN | with_reducible apply Ext.drew | with_reducible apply Ext.alloc | with_reducible refine Ext.set ?_ (by first | (simp; done) | (simp; omega)) _ | with_reducible refine Ext.next ?_ (by with_reducible assumption)))
  clear hc2 hf2 hw2 d0 d1 d2 d3 d4
  refine kfits (w.heap.size + 1) 6 ok _ _ _ rfl rfl q0 q3 (by omega) ?_
  intro a' w3 hdf hsz hold h10 hw3
  obtain ⟨t', df'⟩ := a'
  simp only at hdf hsz hold h10
  subst hdf
  have e := arr_back kslots hold (hsz.trans rfl)
  simp only [kslots, List.foldl_cons, List.foldl_nil] at e
  have h10' : t'.getD 10 undef = .bool (kfit 6 ok) := by rw [Array.getD_eq_getD_getElem?, h10]; rfl
  rw [h10'] at e
  generalize t'.getD 27 undef = u27 at e
  generalize t'.getD 28 undef = u28 at e
  generalize t'.getD 29 undef = u29 at e
  generalize t'.getD 30 undef = u30 at e
  generalize t'.getD 31 undef = u31 at e
  generalize t'.getD 32 undef = u32 at e
  generalize t'.getD 33 undef = u33 at e
  generalize t'.getD 34 undef = u34 at e
  generalize t'.getD 35 undef = u35 at e
  generalize t'.getD 36 undef = u36 at e
  generalize t'.getD 37 undef = u37 at e
  generalize t'.getD 38 undef = u38 at e
  generalize t'.getD 39 undef = u39 at e
  generalize t'.getD 40 undef = u40 at e
  generalize t'.getD 41 undef = u41 at e
  generalize t'.getD 42 undef = u42 at e
  generalize t'.getD 43 undef = u43 at e
  clear hsz hold h10 h10'
  simp only [List.setIfInBounds_toArray, List.set_cons_zero, List.set_cons_succ] at e
  rw [e]
  clear e
  have HX : Hid (Ext w w3) := hid (HX2.out.next hw3)
  replace q0 := keep hw3 q0
  replace q1 := keep hw3 q1
  replace q2 := keep hw3 q2
  replace q3 := keep hw3 q3
  replace q4 := keep hw3 q4
  replace p0 := keep hw3 p0
  replace p1 := keep hw3 p1
  replace p2 := keep hw3 p2
  replace p3 := keep hw3 p3
  replace p4 := keep hw3 p4
  replace p5 := keep hw3 p5
  replace p6 := keep hw3 p6
  have HZ := hid (lt_ext hw3 hz2)
  have hz3 := HZ.out
  have hy3 : w.heap.size < w3.heap.size := by omega
  clear hw3 hz2 hy2 HX2
  go_upto_region 6 with fail
  simp only [List.append_eq, List.cons_append, List.nil_append]
  cases c0 : (ox == 0)
  · have E := hid (EB.trans (by rw [c0] <;> rfl))
    have hX := HX.out
    go_wp2
    go_ret
    exact ⟨ret_bool E.out.symm, (by repeat (first | with_reducible assumption | with_reducible exact Ext.refl _ | with_reducible apply Ext.drewN | with_reducible apply Ext.drew | with_reducible apply Ext.alloc | with_reducible refine Ext.set ?_ (by first | (simp; done) | (simp; omega)) _ | with_reducible refine Ext.next ?_ (by with_reducible assumption)))⟩
  cases c1 : (oy == 0)
  · have E := hid (EB.trans (by rw [c0, c1] <;> rfl))
    have hX := HX.out
    go_wp2
    go_ret
    exact ⟨ret_bool E.out.symm, (by repeat (first | with_reducible assumption | with_reducible exact Ext.refl _ | with_reducible apply Ext.drewN | with_reducible apply Ext.drew | with_reducible apply Ext.alloc | with_reducible refine Ext.set ?_ (by first | (simp; done) | (simp; omega)) _ | with_reducible refine Ext.next ?_ (by with_reducible assumption)))⟩
  cases c2 : (ok == 0)
  · have E := hid (EB.trans (by rw [c0, c1, c2] <;> rfl))
    have hX := HX.out
    go_wp2
    go_ret
    exact ⟨ret_bool E.out.symm, (by repeat (first | with_reducible assumption | with_reducible exact Ext.refl _ | with_reducible apply Ext.drewN | with_reducible apply Ext.drew | with_reducible apply Ext.alloc | with_reducible refine Ext.set ?_ (by first | (simp; done) | (simp; omega)) _ | with_reducible refine Ext.next ?_ (by with_reducible assumption)))⟩
  cases c3 : inB oat 0 (len - 1)
  · have E := hid (EB.trans (by rw [c0, c1, c2, c3] <;> rfl))
    have C3 := hid c3
    clear c3
    go_wp2_with fail
    refine (implIn _ _ _ _).mono ?_
    rintro e w' ⟨rfl, rfl⟩
    rw [C3.out]
    have hX := HX.out
    go_wp2
    go_ret
    exact ⟨ret_bool E.out.symm, (by repeat (first | with_reducible assumption | with_reducible exact Ext.refl _ | with_reducible apply Ext.drewN | with_reducible apply Ext.drew | with_reducible apply Ext.alloc | with_reducible refine Ext.set ?_ (by first | (simp; done) | (simp; omega)) _ | with_reducible refine Ext.next ?_ (by with_reducible assumption)))⟩
  have E := hid (EB.trans (by rw [c0, c1, c2, c3] <;> rfl))
  have C3 := hid c3
  clear c3
  go_wp2_with fail
  refine (implIn _ _ _ _).mono ?_
  rintro e w' ⟨rfl, rfl⟩
  rw [C3.out]
  have hX := HX.out
  go_wp2
  go_ret
  exact ⟨ret_bool E.out.symm, (by repeat (first | with_reducible assumption | with_reducible exact Ext.refl _ | with_reducible apply Ext.drewN | with_reducible apply Ext.drew | with_reducible apply Ext.alloc | with_reducible refine Ext.set ?_ (by first | (simp; done) | (simp; omega)) _ | with_reducible refine Ext.next ?_ (by with_reducible assumption)))⟩

set_option maxRecDepth 10000 in
set_option maxHeartbeats 2000000 in
theorem implOp7 (b : Bk) (n : Nat) (ox oy ok oat : Int) (w : World) (h : RBk 63 w b) (ho : b.ops[n]? = some ⟨7, ox, oy, ok, oat⟩) (hlen : 1 ≤ b.len ∧ b.len ≤ 8) (hl : b.ops.length ≤ 48) :
    Calls Try.prog 39 #[b.val, .int .i64 n] w fun e w' => e = .returned (.bool (opB b.ops b.len n ⟨7, ox, oy, ok, oat⟩)) ∧ Ext w w' := by
  obtain ⟨pc, len, A, c, ops, end_, bx, by_, bk⟩ := b
  unfold RBk at h
  unfold Bk.val Bk.cells
  simp only at h ho hlen hl ⊢
  obtain ⟨hn, _⟩ := List.getElem?_eq_some_iff.1 ho
  obtain ⟨g, q, p, rfl, hb, hp, d0, d1, d2, d3, d4⟩ := h.at_ hn
  rw [ho] at hp
  injection hp with hp
  subst hp
  simp only at d0 d1 d2 d3 d4
  have EB : opB ops len n ⟨7, ox, oy, ok, oat⟩ = (valB ops ox n && ((oy == 0) && ((ok == 0) && inB oat 0 (len - 1)))) := rfl
  have CK : Hid (inB 7 1 8 = true) := hid rfl
  go_enter Try.func39, Try.ntmps39
  go_wp2_with fail
  refine (implIn _ _ _ _).mono ?_
  rintro e w' ⟨rfl, rfl⟩
  rw [CK.out]
  go_wp2_with fail
  refine (implHas ⟨7, ox, oy, ok, oat⟩ _ CK.out).mono ?_
  rintro e w2 ⟨rfl, hw2⟩
  simp only [show hasX 7 = true from rfl, show hasY 7 = false from rfl, show hasK 7 = false from rfl, show hasA 7 = true from rfl]
  go_upto_region 5 with fail
  obtain ⟨hc2, hf2⟩ := bcell_ hw2
  have hz2 : w.heap.size + 1 < w2.heap.size := by have := hw2.size; simp at this; omega
  have hy2 : w.heap.size < w2.heap.size := by omega
  have q0 : w2.cell? ⟨w.heap.size + 1, 0, none⟩ = some (.int .i64 7) := by go_simp
  have q1 : w2.cell? ⟨w.heap.size + 1, 1, none⟩ = some (.int .i64 ox) := by go_simp
  have q2 : w2.cell? ⟨w.heap.size + 1, 2, none⟩ = some (.int .i64 oy) := by go_simp
  have q3 : w2.cell? ⟨w.heap.size + 1, 3, none⟩ = some (.int .i64 ok) := by go_simp
  have q4 : w2.cell? ⟨w.heap.size + 1, 4, none⟩ = some (.int .i64 oat) := by go_simp
  have p0 : w2.cell? ⟨w.heap.size, 0, none⟩ = some (.int .i64 pc) := by go_simp
  have p1 : w2.cell? ⟨w.heap.size, 1, none⟩ = some (.int .i64 len) := by go_simp
  have p2 : w2.cell? ⟨w.heap.size, 2, none⟩ = some (.slice (some ⟨g, q, none⟩) ops.length c) := by go_simp
  have p3 : w2.cell? ⟨w.heap.size, 3, none⟩ = some (.int .i64 end_) := by go_simp
  have p4 : w2.cell? ⟨w.heap.size, 4, none⟩ = some (.int .i64 bx) := by go_simp
  have p5 : w2.cell? ⟨w.heap.size, 5, none⟩ = some (.int .i64 by_) := by go_simp
  have p6 : w2.cell? ⟨w.heap.size, 6, none⟩ = some (.int .i64 bk) := by go_simp
  have HX2 : Hid (Ext w w2) := hid (by repeat (first | with_reducible assumption | with_reducible exact Ext.refl _ | with_reducible apply Ext.drewN | with_reducible apply Ext.drew | with_reducible apply Ext.alloc | with_reducible refine Ext.set ?_ (by first | (simp; done) | (simp; omega)) _ | with_reducible refine Ext.next ?_ (by with_reducible assumption)))
  clear hc2 hf2 hw2 d0 d1 d2 d3 d4
  refine kfits (w.heap.size + 1) 7 ok _ _ _ rfl rfl q0 q3 (by omega) ?_
  intro a' w3 hdf hsz hold h10 hw3
  obtain ⟨t', df'⟩ := a'
  simp only at hdf hsz hold h10
  subst hdf
  have e := arr_back kslots hold (hsz.trans rfl)
  simp only [kslots, List.foldl_cons, List.foldl_nil] at e
  have h10' : t'.getD 10 undef = .bool (kfit 7 ok) := by rw [Array.getD_eq_getD_getElem?, h10]; rfl
  rw [h10'] at e
  generalize t'.getD 27 undef = u27 at e
  generalize t'.getD 28 undef = u28 at e
  generalize t'.getD 29 undef = u29 at e
  generalize t'.getD 30 undef = u30 at e
  generalize t'.getD 31 undef = u31 at e
  generalize t'.getD 32 undef = u32 at e
  generalize t'.getD 33 undef = u33 at e
  generalize t'.getD 34 undef = u34 at e
  generalize t'.getD 35 undef = u35 at e
  generalize t'.getD 36 undef = u36 at e
  generalize t'.getD 37 undef = u37 at e
  generalize t'.getD 38 undef = u38 at e
  generalize t'.getD 39 undef = u39 at e
  generalize t'.getD 40 undef = u40 at e
  generalize t'.getD 41 undef = u41 at e
  generalize t'.getD 42 undef = u42 at e
  generalize t'.getD 43 undef = u43 at e
  clear hsz hold h10 h10'
  simp only [List.setIfInBounds_toArray, List.set_cons_zero, List.set_cons_succ] at e
  rw [e]
  clear e
  have HX : Hid (Ext w w3) := hid (HX2.out.next hw3)
  replace q0 := keep hw3 q0
  replace q1 := keep hw3 q1
  replace q2 := keep hw3 q2
  replace q3 := keep hw3 q3
  replace q4 := keep hw3 q4
  replace p0 := keep hw3 p0
  replace p1 := keep hw3 p1
  replace p2 := keep hw3 p2
  replace p3 := keep hw3 p3
  replace p4 := keep hw3 p4
  replace p5 := keep hw3 p5
  replace p6 := keep hw3 p6
  have HZ := hid (lt_ext hw3 hz2)
  have hz3 := HZ.out
  have hy3 : w.heap.size < w3.heap.size := by omega
  clear hw3 hz2 hy2 HX2
  go_upto_region 6 with fail
  simp only [List.append_eq, List.cons_append, List.nil_append]
  cases c0 : valB ops ox n
  · have E := hid (EB.trans (by rw [c0] <;> rfl))
    have C0 := hid c0
    clear c0
    go_wp2_with fail
    refine (implValue ⟨pc, len, some ⟨g, q, none⟩, c, ops, end_, bx, by_, bk⟩ ox n _ (h.ext (HX.out.next (by repeat (first | with_reducible assumption | with_reducible exact Ext.refl _ | with_reducible apply Ext.drewN | with_reducible apply Ext.drew | with_reducible apply Ext.alloc | with_reducible refine Ext.set ?_ (by first | (simp; done) | (simp; omega)) _ | with_reducible refine Ext.next ?_ (by with_reducible assumption))))) (by simp only; omega) (by simp only; omega) C0.out).mono ?_
    rintro e v0 ⟨rfl, hv0⟩
    obtain ⟨hc0, hf0⟩ := bcell_ hv0
    have hzv0 := lt_ext hv0 HZ.out
    replace HZ := hid hzv0
    have hyv0 : w.heap.size < v0.heap.size := by omega
    have hX := HX.out
    go_wp2
    go_ret
    exact ⟨ret_bool E.out.symm, (by repeat (first | with_reducible assumption | with_reducible exact Ext.refl _ | with_reducible apply Ext.drewN | with_reducible apply Ext.drew | with_reducible apply Ext.alloc | with_reducible refine Ext.set ?_ (by first | (simp; done) | (simp; omega)) _ | with_reducible refine Ext.next ?_ (by with_reducible assumption)))⟩
  cases c1 : (oy == 0)
  · have E := hid (EB.trans (by rw [c0, c1] <;> rfl))
    have C0 := hid c0
    clear c0
    go_wp2_with fail
    refine (implValue ⟨pc, len, some ⟨g, q, none⟩, c, ops, end_, bx, by_, bk⟩ ox n _ (h.ext (HX.out.next (by repeat (first | with_reducible assumption | with_reducible exact Ext.refl _ | with_reducible apply Ext.drewN | with_reducible apply Ext.drew | with_reducible apply Ext.alloc | with_reducible refine Ext.set ?_ (by first | (simp; done) | (simp; omega)) _ | with_reducible refine Ext.next ?_ (by with_reducible assumption))))) (by simp only; omega) (by simp only; omega) C0.out).mono ?_
    rintro e v0 ⟨rfl, hv0⟩
    obtain ⟨hc0, hf0⟩ := bcell_ hv0
    have hzv0 := lt_ext hv0 HZ.out
    replace HZ := hid hzv0
    have hyv0 : w.heap.size < v0.heap.size := by omega
    have hX := HX.out
    go_wp2
    go_ret
    exact ⟨ret_bool E.out.symm, (by repeat (first | with_reducible assumption | with_reducible exact Ext.refl _ | with_reducible apply Ext.drewN | with_reducible apply Ext.drew | with_reducible apply Ext.alloc | with_reducible refine Ext.set ?_ (by first | (simp; done) | (simp; omega)) _ | with_reducible refine Ext.next ?_ (by with_reducible assumption)))⟩
  cases c2 : (ok == 0)
  · have E := hid (EB.trans (by rw [c0, c1, c2] <;> rfl))
    have C0 := hid c0
    clear c0
    go_wp2_with fail
    refine (implValue ⟨pc, len, some ⟨g, q, none⟩, c, ops, end_, bx, by_, bk⟩ ox n _ (h.ext (HX.out.next (by repeat (first | with_reducible assumption | with_reducible exact Ext.refl _ | with_reducible apply Ext.drewN | with_reducible apply Ext.drew | with_reducible apply Ext.alloc | with_reducible refine Ext.set ?_ (by first | (simp; done) | (simp; omega)) _ | with_reducible refine Ext.next ?_ (by with_reducible assumption))))) (by simp only; omega) (by simp only; omega) C0.out).mono ?_
    rintro e v0 ⟨rfl, hv0⟩
    obtain ⟨hc0, hf0⟩ := bcell_ hv0
    have hzv0 := lt_ext hv0 HZ.out
    replace HZ := hid hzv0
    have hyv0 : w.heap.size < v0.heap.size := by omega
    have hX := HX.out
    go_wp2
    go_ret
    exact ⟨ret_bool E.out.symm, (by repeat (first | with_reducible assumption | with_reducible exact Ext.refl _ | with_reducible apply Ext.drewN | with_reducible apply Ext.drew | with_reducible apply Ext.alloc | with_reducible refine Ext.set ?_ (by first | (simp; done) | (simp; omega)) _ | with_reducible refine Ext.next ?_ (by with_reducible assumption)))⟩
  cases c3 : inB oat 0 (len - 1)
  · have E := hid (EB.trans (by rw [c0, c1, c2, c3] <;> rfl))
    have C0 := hid c0
    have C3 := hid c3
    clear c0 c3
    go_wp2_with fail
    refine (implValue ⟨pc, len, some ⟨g, q, none⟩, c, ops, end_, bx, by_, bk⟩ ox n _ (h.ext (HX.out.next (by repeat (first | with_reducible assumption | with_reducible exact Ext.refl _ | with_reducible apply Ext.drewN | with_reducible apply Ext.drew | with_reducible apply Ext.alloc | with_reducible refine Ext.set ?_ (by first | (simp; done) | (simp; omega)) _ | with_reducible refine Ext.next ?_ (by with_reducible assumption))))) (by simp only; omega) (by simp only; omega) C0.out).mono ?_
    rintro e v0 ⟨rfl, hv0⟩
    obtain ⟨hc0, hf0⟩ := bcell_ hv0
    have hzv0 := lt_ext hv0 HZ.out
    replace HZ := hid hzv0
    have hyv0 : w.heap.size < v0.heap.size := by omega
    go_wp2_with fail
    refine (implIn _ _ _ _).mono ?_
    rintro e w' ⟨rfl, rfl⟩
    rw [C3.out]
    have hX := HX.out
    go_wp2
    go_ret
    exact ⟨ret_bool E.out.symm, (by repeat (first | with_reducible assumption | with_reducible exact Ext.refl _ | with_reducible apply Ext.drewN | with_reducible apply Ext.drew | with_reducible apply Ext.alloc | with_reducible refine Ext.set ?_ (by first | (simp; done) | (simp; omega)) _ | with_reducible refine Ext.next ?_ (by with_reducible assumption)))⟩
  have E := hid (EB.trans (by rw [c0, c1, c2, c3] <;> rfl))
  have C0 := hid c0
  have C3 := hid c3
  clear c0 c3
  go_wp2_with fail
  refine (implValue ⟨pc, len, some ⟨g, q, none⟩, c, ops, end_, bx, by_, bk⟩ ox n _ (h.ext (HX.out.next (by repeat (first | with_reducible assumption | with_reducible exact Ext.refl _ | with_reducible apply Ext.drewN | with_reducible apply Ext.drew | with_reducible apply Ext.alloc | with_reducible refine Ext.set ?_ (by first | (simp; done) | (simp; omega)) _ | with_reducible refine Ext.next ?_ (by with_reducible assumption))))) (by simp only; omega) (by simp only; omega) C0.out).mono ?_
  rintro e v0 ⟨rfl, hv0⟩
  obtain ⟨hc0, hf0⟩ := bcell_ hv0
  have hzv0 := lt_ext hv0 HZ.out
  replace HZ := hid hzv0
  have hyv0 : w.heap.size < v0.heap.size := by omega
  go_wp2_with fail
  refine (implIn _ _ _ _).mono ?_
  rintro e w' ⟨rfl, rfl⟩
  rw [C3.out]
  have hX := HX.out
  go_wp2
  go_ret
  exact ⟨ret_bool E.out.symm, (by repeat (first | with_reducible assumption | with_reducible exact Ext.refl _ | with_reducible apply Ext.drewN | with_reducible apply Ext.drew | with_reducible apply Ext.alloc | with_reducible refine Ext.set ?_ (by first | (simp; done) | (simp; omega)) _ | with_reducible refine Ext.next ?_ (by with_reducible assumption)))⟩

set_option maxRecDepth 10000 in
set_option maxHeartbeats 2000000 in
theorem implOp8 (b : Bk) (n : Nat) (ox oy ok oat : Int) (w : World) (h : RBk 63 w b) (ho : b.ops[n]? = some ⟨8, ox, oy, ok, oat⟩) (hlen : 1 ≤ b.len ∧ b.len ≤ 8) (hl : b.ops.length ≤ 48) :
    Calls Try.prog 39 #[b.val, .int .i64 n] w fun e w' => e = .returned (.bool (opB b.ops b.len n ⟨8, ox, oy, ok, oat⟩)) ∧ Ext w w' := by
  obtain ⟨pc, len, A, c, ops, end_, bx, by_, bk⟩ := b
  unfold RBk at h
  unfold Bk.val Bk.cells
  simp only at h ho hlen hl ⊢
  obtain ⟨hn, _⟩ := List.getElem?_eq_some_iff.1 ho
  obtain ⟨g, q, p, rfl, hb, hp, d0, d1, d2, d3, d4⟩ := h.at_ hn
  rw [ho] at hp
  injection hp with hp
  subst hp
  simp only at d0 d1 d2 d3 d4
  have EB : opB ops len n ⟨8, ox, oy, ok, oat⟩ = (valB ops ox n && ((oy == 0) && (kfit 8 ok && (oat == 0)))) := rfl
  have CK : Hid (inB 8 1 8 = true) := hid rfl
  go_enter Try.func39, Try.ntmps39
  go_wp2_with fail
  refine (implIn _ _ _ _).mono ?_
  rintro e w' ⟨rfl, rfl⟩
  rw [CK.out]
  go_wp2_with fail
  refine (implHas ⟨8, ox, oy, ok, oat⟩ _ CK.out).mono ?_
  rintro e w2 ⟨rfl, hw2⟩
  simp only [show hasX 8 = true from rfl, show hasY 8 = false from rfl, show hasK 8 = true from rfl, show hasA 8 = false from rfl]
  go_upto_region 5 with fail
  obtain ⟨hc2, hf2⟩ := bcell_ hw2
  have hz2 : w.heap.size + 1 < w2.heap.size := by have := hw2.size; simp at this; omega
  have hy2 : w.heap.size < w2.heap.size := by omega
  have q0 : w2.cell? ⟨w.heap.size + 1, 0, none⟩ = some (.int .i64 8) := by go_simp
  have q1 : w2.cell? ⟨w.heap.size + 1, 1, none⟩ = some (.int .i64 ox) := by go_simp
  have q2 : w2.cell? ⟨w.heap.size + 1, 2, none⟩ = some (.int .i64 oy) := by go_simp
  have q3 : w2.cell? ⟨w.heap.size + 1, 3, none⟩ = some (.int .i64 ok) := by go_simp
  have q4 : w2.cell? ⟨w.heap.size + 1, 4, none⟩ = some (.int .i64 oat) := by go_simp
  have p0 : w2.cell? ⟨w.heap.size, 0, none⟩ = some (.int .i64 pc) := by go_simp
  have p1 : w2.cell? ⟨w.heap.size, 1, none⟩ = some (.int .i64 len) := by go_simp
  have p2 : w2.cell? ⟨w.heap.size, 2, none⟩ = some (.slice (some ⟨g, q, none⟩) ops.length c) := by go_simp
  have p3 : w2.cell? ⟨w.heap.size, 3, none⟩ = some (.int .i64 end_) := by go_simp
  have p4 : w2.cell? ⟨w.heap.size, 4, none⟩ = some (.int .i64 bx) := by go_simp
  have p5 : w2.cell? ⟨w.heap.size, 5, none⟩ = some (.int .i64 by_) := by go_simp
  have p6 : w2.cell? ⟨w.heap.size, 6, none⟩ = some (.int .i64 bk) := by go_simp
  have HX2 : Hid (Ext w w2) := hid (by repeat (first | with_reducible assumption | with_reducible exact Ext.refl _ | with_reducible apply Ext.drewN | with_reducible apply Ext.drew | with_reducible apply Ext.alloc | with_reducible refine Ext.set ?_ (by first | (simp; done) | (simp; omega)) _ | with_reducible refine Ext.next ?_ (by with_reducible assumption)))
  clear hc2 hf2 hw2 d0 d1 d2 d3 d4
  refine kfits (w.heap.size + 1) 8 ok _ _ _ rfl rfl q0 q3 (by omega) ?_
  intro a' w3 hdf hsz hold h10 hw3
  obtain ⟨t', df'⟩ := a'
  simp only at hdf hsz hold h10
  subst hdf
  have e := arr_back kslots hold (hsz.trans rfl)
  simp only [kslots, List.foldl_cons, List.foldl_nil] at e
  have h10' : t'.getD 10 undef = .bool (kfit 8 ok) := by rw [Array.getD_eq_getD_getElem?, h10]; rfl
  rw [h10'] at e
  generalize t'.getD 27 undef = u27 at e
  generalize t'.getD 28 undef = u28 at e
  generalize t'.getD 29 undef = u29 at e
  generalize t'.getD 30 undef = u30 at e
  generalize t'.getD 31 undef = u31 at e
  generalize t'.getD 32 undef = u32 at e
  generalize t'.getD 33 undef = u33 at e
  generalize t'.getD 34 undef = u34 at e
  generalize t'.getD 35 undef = u35 at e
  generalize t'.getD 36 undef = u36 at e
  generalize t'.getD 37 undef = u37 at e
  generalize t'.getD 38 undef = u38 at e
  generalize t'.getD 39 undef = u39 at e
  generalize t'.getD 40 undef = u40 at e
  generalize t'.getD 41 undef = u41 at e
  generalize t'.getD 42 undef = u42 at e
  generalize t'.getD 43 undef = u43 at e
  clear hsz hold h10 h10'
  simp only [List.setIfInBounds_toArray, List.set_cons_zero, List.set_cons_succ] at e
  rw [e]
  clear e
  have HX : Hid (Ext w w3) := hid (HX2.out.next hw3)
  replace q0 := keep hw3 q0
  replace q1 := keep hw3 q1
  replace q2 := keep hw3 q2
  replace q3 := keep hw3 q3
  replace q4 := keep hw3 q4
  replace p0 := keep hw3 p0
  replace p1 := keep hw3 p1
  replace p2 := keep hw3 p2
  replace p3 := keep hw3 p3
  replace p4 := keep hw3 p4
  replace p5 := keep hw3 p5
  replace p6 := keep hw3 p6
  have HZ := hid (lt_ext hw3 hz2)
  have hz3 := HZ.out
  have hy3 : w.heap.size < w3.heap.size := by omega
  clear hw3 hz2 hy2 HX2
  go_upto_region 6 with fail
  simp only [List.append_eq, List.cons_append, List.nil_append]
  cases c0 : valB ops ox n
  · have E := hid (EB.trans (by rw [c0] <;> rfl))
    have C0 := hid c0
    clear c0
    go_wp2_with fail
    refine (implValue ⟨pc, len, some ⟨g, q, none⟩, c, ops, end_, bx, by_, bk⟩ ox n _ (h.ext (HX.out.next (by repeat (first | with_reducible assumption | with_reducible exact Ext.refl _ | with_reducible apply Ext.drewN | with_reducible apply Ext.drew | with_reducible apply Ext.alloc | with_reducible refine Ext.set ?_ (by first | (simp; done) | (simp; omega)) _ | with_reducible refine Ext.next ?_ (by with_reducible assumption))))) (by simp only; omega) (by simp only; omega) C0.out).mono ?_
    rintro e v0 ⟨rfl, hv0⟩
    obtain ⟨hc0, hf0⟩ := bcell_ hv0
    have hzv0 := lt_ext hv0 HZ.out
    replace HZ := hid hzv0
    have hyv0 : w.heap.size < v0.heap.size := by omega
    have hX := HX.out
    go_wp2
    go_ret
    exact ⟨ret_bool E.out.symm, (by repeat (first | with_reducible assumption | with_reducible exact Ext.refl _ | with_reducible apply Ext.drewN | with_reducible apply Ext.drew | with_reducible apply Ext.alloc | with_reducible refine Ext.set ?_ (by first | (simp; done) | (simp; omega)) _ | with_reducible refine Ext.next ?_ (by with_reducible assumption)))⟩
  cases c1 : (oy == 0)
  · have E := hid (EB.trans (by rw [c0, c1] <;> rfl))
    have C0 := hid c0
    clear c0
    go_wp2_with fail
    refine (implValue ⟨pc, len, some ⟨g, q, none⟩, c, ops, end_, bx, by_, bk⟩ ox n _ (h.ext (HX.out.next (by repeat (first | with_reducible assumption | with_reducible exact Ext.refl _ | with_reducible apply Ext.drewN | with_reducible apply Ext.drew | with_reducible apply Ext.alloc | with_reducible refine Ext.set ?_ (by first | (simp; done) | (simp; omega)) _ | with_reducible refine Ext.next ?_ (by with_reducible assumption))))) (by simp only; omega) (by simp only; omega) C0.out).mono ?_
    rintro e v0 ⟨rfl, hv0⟩
    obtain ⟨hc0, hf0⟩ := bcell_ hv0
    have hzv0 := lt_ext hv0 HZ.out
    replace HZ := hid hzv0
    have hyv0 : w.heap.size < v0.heap.size := by omega
    have hX := HX.out
    go_wp2
    go_ret
    exact ⟨ret_bool E.out.symm, (by repeat (first | with_reducible assumption | with_reducible exact Ext.refl _ | with_reducible apply Ext.drewN | with_reducible apply Ext.drew | with_reducible apply Ext.alloc | with_reducible refine Ext.set ?_ (by first | (simp; done) | (simp; omega)) _ | with_reducible refine Ext.next ?_ (by with_reducible assumption)))⟩
  cases c2 : kfit 8 ok
  · have E := hid (EB.trans (by rw [c0, c1, c2] <;> rfl))
    have C0 := hid c0
    clear c0
    go_wp2_with fail
    refine (implValue ⟨pc, len, some ⟨g, q, none⟩, c, ops, end_, bx, by_, bk⟩ ox n _ (h.ext (HX.out.next (by repeat (first | with_reducible assumption | with_reducible exact Ext.refl _ | with_reducible apply Ext.drewN | with_reducible apply Ext.drew | with_reducible apply Ext.alloc | with_reducible refine Ext.set ?_ (by first | (simp; done) | (simp; omega)) _ | with_reducible refine Ext.next ?_ (by with_reducible assumption))))) (by simp only; omega) (by simp only; omega) C0.out).mono ?_
    rintro e v0 ⟨rfl, hv0⟩
    obtain ⟨hc0, hf0⟩ := bcell_ hv0
    have hzv0 := lt_ext hv0 HZ.out
    replace HZ := hid hzv0
    have hyv0 : w.heap.size < v0.heap.size := by omega
    have hX := HX.out
    go_wp2
    go_ret
    exact ⟨ret_bool E.out.symm, (by repeat (first | with_reducible assumption | with_reducible exact Ext.refl _ | with_reducible apply Ext.drewN | with_reducible apply Ext.drew | with_reducible apply Ext.alloc | with_reducible refine Ext.set ?_ (by first | (simp; done) | (simp; omega)) _ | with_reducible refine Ext.next ?_ (by with_reducible assumption)))⟩
  cases c3 : (oat == 0)
  · have E := hid (EB.trans (by rw [c0, c1, c2, c3] <;> rfl))
    have C0 := hid c0
    clear c0
    go_wp2_with fail
    refine (implValue ⟨pc, len, some ⟨g, q, none⟩, c, ops, end_, bx, by_, bk⟩ ox n _ (h.ext (HX.out.next (by repeat (first | with_reducible assumption | with_reducible exact Ext.refl _ | with_reducible apply Ext.drewN | with_reducible apply Ext.drew | with_reducible apply Ext.alloc | with_reducible refine Ext.set ?_ (by first | (simp; done) | (simp; omega)) _ | with_reducible refine Ext.next ?_ (by with_reducible assumption))))) (by simp only; omega) (by simp only; omega) C0.out).mono ?_
    rintro e v0 ⟨rfl, hv0⟩
    obtain ⟨hc0, hf0⟩ := bcell_ hv0
    have hzv0 := lt_ext hv0 HZ.out
    replace HZ := hid hzv0
    have hyv0 : w.heap.size < v0.heap.size := by omega
    have hX := HX.out
    go_wp2
    go_ret
    exact ⟨ret_bool E.out.symm, (by repeat (first | with_reducible assumption | with_reducible exact Ext.refl _ | with_reducible apply Ext.drewN | with_reducible apply Ext.drew | with_reducible apply Ext.alloc | with_reducible refine Ext.set ?_ (by first | (simp; done) | (simp; omega)) _ | with_reducible refine Ext.next ?_ (by with_reducible assumption)))⟩
  have E := hid (EB.trans (by rw [c0, c1, c2, c3] <;> rfl))
  have C0 := hid c0
  clear c0
  go_wp2_with fail
  refine (implValue ⟨pc, len, some ⟨g, q, none⟩, c, ops, end_, bx, by_, bk⟩ ox n _ (h.ext (HX.out.next (by repeat (first | with_reducible assumption | with_reducible exact Ext.refl _ | with_reducible apply Ext.drewN | with_reducible apply Ext.drew | with_reducible apply Ext.alloc | with_reducible refine Ext.set ?_ (by first | (simp; done) | (simp; omega)) _ | with_reducible refine Ext.next ?_ (by with_reducible assumption))))) (by simp only; omega) (by simp only; omega) C0.out).mono ?_
  rintro e v0 ⟨rfl, hv0⟩
  obtain ⟨hc0, hf0⟩ := bcell_ hv0
  have hzv0 := lt_ext hv0 HZ.out
  replace HZ := hid hzv0
  have hyv0 : w.heap.size < v0.heap.size := by omega
  have hX := HX.out
  go_wp2
  go_ret
  exact ⟨ret_bool E.out.symm, (by repeat (first | with_reducible assumption | with_reducible exact Ext.refl _ | with_reducible apply Ext.drewN | with_reducible apply Ext.drew | with_reducible apply Ext.alloc | with_reducible refine Ext.set ?_ (by first | (simp; done) | (simp; omega)) _ | with_reducible refine Ext.next ?_ (by with_reducible assumption)))⟩
end Go.Proofs.Ytcjeeggffeoilaa
