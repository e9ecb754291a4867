/- Whether a piece of code is ok: contracts of IrOk of both sides. Conditions: lengths that a machine can hold. -/
import Derived.Test.YtcjeeggffeoilaaRS
namespace Go.Proofs.Ytcjeeggffeoilaa
open Go Go.RowKit
set_option linter.unusedVariables false
set_option linter.unusedSimpArgs false

def opAt (ops : List Op5) (len : Int) (t : Nat) : Bool := match ops[t]? with
  | some o => opB ops len t o
  | none => true
theorem opAt_some {ops : List Op5} {len : Int} {t : Nat} {o : Op5} (h : ops[t]? = some o) : opAt ops len t = opB ops len t o := by unfold opAt; rw [h]
def allOps (ops : List Op5) (len : Int) (n : Nat) : Bool := (List.range n).all (opAt ops len)
theorem allOps_zero (ops : List Op5) (len : Int) : allOps ops len 0 = true := rfl
theorem allOps_step {ops : List Op5} {len : Int} {j : Nat} {o : Op5} (h : allOps ops len j = true) (ho : ops[j]? = some o) (hv : opB ops len j o = true) : allOps ops len (j + 1) = true := by
  unfold allOps at h ⊢
  rw [List.range_succ, List.all_append, h, List.all_cons, opAt_some ho, hv]
  rfl
theorem allOps_bad {ops : List Op5} {len : Int} {j n : Nat} {o : Op5} (ho : ops[j]? = some o) (hv : opB ops len j o = false) (hj : j < n) : allOps ops len n = false := by
  unfold allOps
  rw [List.all_eq_false]
  refine ⟨j, List.mem_range.2 hj, ?_⟩
  rw [opAt_some ho, hv]
  simp
def irOk (b : Bk) : Bool := inB b.len 1 8 && (inB b.pc 0 (64 - b.len) && (decide (b.ops.length ≤ 48) && (allOps b.ops b.len b.ops.length && endB b.ops b.end_ b.x b.y b.k)))
theorem irOk_dat {b b' : Bk} (h : b.dat = b'.dat) : irOk b = irOk b' := by
  obtain ⟨pc, len, A, c, ops, end_, x, y, k⟩ := b
  obtain ⟨pc', len', A', c', ops', end', x', y', k'⟩ := b'
  unfold Bk.dat at h
  simp only [Prod.mk.injEq] at h
  obtain ⟨rfl, rfl, rfl, rfl, rfl, rfl, rfl⟩ := h
  rfl
theorem len_of {len : Int} (h : inB len 1 8 = true) : 1 ≤ len ∧ len ≤ 8 := by
  unfold inB at h
  rw [Bool.and_eq_true] at h
  exact ⟨of_decide_eq_true h.1, of_decide_eq_true h.2⟩
def At7 (w : World) (g : Nat) (b : Bk) : Prop := w.cell? ⟨g, 0, none⟩ = some (.int .i64 b.pc) ∧ w.cell? ⟨g, 1, none⟩ = some (.int .i64 b.len) ∧ w.cell? ⟨g, 2, none⟩ = some (.slice b.A b.ops.length b.c) ∧ w.cell? ⟨g, 3, none⟩ = some (.int .i64 b.end_) ∧ w.cell? ⟨g, 4, none⟩ = some (.int .i64 b.x) ∧ w.cell? ⟨g, 5, none⟩ = some (.int .i64 b.y) ∧ w.cell? ⟨g, 6, none⟩ = some (.int .i64 b.k)
theorem At7.ext {w w' : World} {g : Nat} {b : Bk} (h : At7 w g b) (e : Ext w w') : At7 w' g b :=
  ⟨keep e h.1, keep e h.2.1, keep e h.2.2.1, keep e h.2.2.2.1, keep e h.2.2.2.2.1, keep e h.2.2.2.2.2.1, keep e h.2.2.2.2.2.2⟩

set_option maxHeartbeats 2000000 in
set_option maxRecDepth 10000 in
theorem implIrOk (b : Bk) (w : World) (h : RBk 63 w b) (hn : b.ops.length < 4611686018427387904) :
    Calls Try.prog 22 #[b.val] w fun e w' => e = .returned (.bool (irOk b)) ∧ Ext w w' := by
  obtain ⟨pc, len, A, c, ops, end_, bx, by_, bk⟩ := b
  unfold RBk at h
  simp only at h hn ⊢
  cases hL : inB len 1 8
  · have L := hid hL
    have E := hid (show irOk ⟨pc, len, A, c, ops, end_, bx, by_, bk⟩ = false by unfold irOk; simp only; rw [hL]; rfl)
    clear hL
    unfold Bk.val Bk.cells
    simp only
    go_enter Try.func22, Try.ntmps22
    go_wp2_with fail
    refine (implIn _ _ _ _).mono ?_
    rintro e w' ⟨rfl, rfl⟩
    rw [L.out]
    go_wp2
    go_ret
    exact ⟨ret_bool E.out.symm, (by repeat (first | with_reducible assumption | with_reducible exact Ext.refl _ | with_reducible apply Ext.drewN | with_reducible apply Ext.drew | with_reducible apply Ext.alloc | with_reducible refine Ext.set ?_ (by first | (simp; done) | (simp; omega)) _ | with_reducible refine Ext.next ?_ (by with_reducible assumption)))⟩
  have hlen := len_of hL
  have HB := hid hlen
  cases hP : inB pc 0 (64 - len)
  · have L := hid hL
    have P := hid hP
    have E := hid (show irOk ⟨pc, len, A, c, ops, end_, bx, by_, bk⟩ = false by unfold irOk; simp only; rw [hL, hP]; rfl)
    clear hL hP
    unfold Bk.val Bk.cells
    simp only
    go_enter Try.func22, Try.ntmps22
    go_wp2_with fail
    refine (implIn _ _ _ _).mono ?_
    rintro e w' ⟨rfl, rfl⟩
    rw [L.out]
    go_wp2_with fail
    refine (implIn _ _ _ _).mono ?_
    rintro e w' ⟨rfl, rfl⟩
    rw [P.out]
    go_wp2
    go_ret
    exact ⟨ret_bool E.out.symm, (by repeat (first | with_reducible assumption | with_reducible exact Ext.refl _ | with_reducible apply Ext.drewN | with_reducible apply Ext.drew | with_reducible apply Ext.alloc | with_reducible refine Ext.set ?_ (by first | (simp; done) | (simp; omega)) _ | with_reducible refine Ext.next ?_ (by with_reducible assumption)))⟩
  by_cases h48 : 48 < ops.length
  · have L := hid hL
    have P := hid hP
    have E := hid (show irOk ⟨pc, len, A, c, ops, end_, bx, by_, bk⟩ = false by unfold irOk; simp only; rw [hL, hP, decide_eq_false (by omega)]; rfl)
    clear hL hP
    unfold Bk.val Bk.cells
    simp only
    go_enter Try.func22, Try.ntmps22
    go_wp2_with fail
    refine (implIn _ _ _ _).mono ?_
    rintro e w' ⟨rfl, rfl⟩
    rw [L.out]
    go_wp2_with fail
    refine (implIn _ _ _ _).mono ?_
    rintro e w' ⟨rfl, rfl⟩
    rw [P.out]
    go_wp2
    go_ret
    exact ⟨ret_bool E.out.symm, (by repeat (first | with_reducible assumption | with_reducible exact Ext.refl _ | with_reducible apply Ext.drewN | with_reducible apply Ext.drew | with_reducible apply Ext.alloc | with_reducible refine Ext.set ?_ (by first | (simp; done) | (simp; omega)) _ | with_reducible refine Ext.next ?_ (by with_reducible assumption)))⟩
  have hl : ops.length ≤ 48 := by omega
  have E := hid (show irOk ⟨pc, len, A, c, ops, end_, bx, by_, bk⟩ = (allOps ops len ops.length && endB ops end_ bx by_ bk) by unfold irOk; simp only; rw [hL, hP, decide_eq_true hl]; rfl)
  have L := hid hL
  have P := hid hP
  clear hL hP hn
  unfold Bk.val Bk.cells
  simp only
  go_enter Try.func22, Try.ntmps22
  go_wp2_with fail
  refine (implIn _ _ _ _).mono ?_
  rintro e w' ⟨rfl, rfl⟩
  rw [L.out]
  go_wp2_with fail
  refine (implIn _ _ _ _).mono ?_
  rintro e w' ⟨rfl, rfl⟩
  rw [P.out]
  go_wp2
  go_loopw [3, 26] (fun _ i wr => ∃ j : Nat, j ≤ ops.length ∧ i = .int .i64 j ∧ allOps ops len j = true ∧ At7 wr w.heap.size ⟨pc, len, A, c, ops, end_, bx, by_, bk⟩ ∧ Ext w wr) (fun _ i _ => ops.length - (intOf i).toNat)
  case atStart => exact ⟨0, Nat.zero_le _, rfl, allOps_zero _ _, by unfold At7; refine ⟨?_, ?_, ?_, ?_, ?_, ?_, ?_⟩ <;> go_simp, (by repeat (first | with_reducible assumption | with_reducible exact Ext.refl _ | with_reducible apply Ext.drewN | with_reducible apply Ext.drew | with_reducible apply Ext.alloc | with_reducible refine Ext.set ?_ (by first | (simp; done) | (simp; omega)) _ | with_reducible refine Ext.next ?_ (by with_reducible assumption)))⟩
  case round =>
    obtain ⟨j, hj, rfl, hall, h7, hext⟩ := hrel
    have HA := hid hall
    have H7 := hid h7
    clear hall
    unfold At7 at h7
    simp only at h7
    obtain ⟨d0, d1, d2, d3, d4, d5, d6⟩ := h7
    by_cases hlt : j < ops.length
    · obtain ⟨o, ho⟩ : ∃ o, ops[j]? = some o := ⟨_, List.getElem?_eq_getElem hlt⟩
      have HO := hid ho
      cases hv : opB ops len j o
      · have HV := hid hv
        have HE := hid (show irOk ⟨pc, len, A, c, ops, end_, bx, by_, bk⟩ = false by rw [E.out, allOps_bad ho hv hlt]; rfl)
        clear hv
        go_wp2_with fail
        refine (implOpOk ⟨pc, len, A, c, ops, end_, bx, by_, bk⟩ j o _ (h.ext hext) ho HB.out hl HV.out).mono ?_
        rintro e w1 ⟨rfl, hw1⟩
        go_wp2
        go_ret
        exact ⟨ret_bool HE.out.symm, (by repeat (first | with_reducible assumption | with_reducible exact Ext.refl _ | with_reducible apply Ext.drewN | with_reducible apply Ext.drew | with_reducible apply Ext.alloc | with_reducible refine Ext.set ?_ (by first | (simp; done) | (simp; omega)) _ | with_reducible refine Ext.next ?_ (by with_reducible assumption)))⟩
      · have HV := hid hv
        have HS := hid (allOps_step HA.out ho hv)
        clear hv
        go_wp2_with fail
        refine (implOpOk ⟨pc, len, A, c, ops, end_, bx, by_, bk⟩ j o _ (h.ext hext) ho HB.out hl HV.out).mono ?_
        rintro e w1 ⟨rfl, hw1⟩
        have K7 := hid (H7.out.ext hw1)
        go_wp2
        go_roundw
        case rel => exact ⟨j + 1, by omega, by go_num, HS.out, K7.out, (by repeat (first | with_reducible assumption | with_reducible exact Ext.refl _ | with_reducible apply Ext.drewN | with_reducible apply Ext.drew | with_reducible apply Ext.alloc | with_reducible refine Ext.set ?_ (by first | (simp; done) | (simp; omega)) _ | with_reducible refine Ext.next ?_ (by with_reducible assumption)))⟩
        case measure => simp [intOf]; omega
    · obtain rfl : j = ops.length := by omega
      have HE := hid (show irOk ⟨pc, len, A, c, ops, end_, bx, by_, bk⟩ = endB ops end_ bx by_ bk by rw [E.out, HA.out]; rfl)
      go_wp2_with fail
      refine (implEndOk ⟨pc, len, A, c, ops, end_, bx, by_, bk⟩ _ (h.ext hext) hl).mono ?_
      rintro e w1 ⟨rfl, hw1⟩
      go_wp2
      go_ret
      exact ⟨ret_bool HE.out.symm, (by repeat (first | with_reducible assumption | with_reducible exact Ext.refl _ | with_reducible apply Ext.drewN | with_reducible apply Ext.drew | with_reducible apply Ext.alloc | with_reducible refine Ext.set ?_ (by first | (simp; done) | (simp; omega)) _ | with_reducible refine Ext.next ?_ (by with_reducible assumption)))⟩

set_option maxHeartbeats 2000000 in
set_option maxRecDepth 10000 in
theorem specIrOk (b : Bk) (w : World) (h : RBk 63 w b) (hn : b.ops.length < 4611686018427387904) :
    Calls Try.prog 20 #[b.val] w fun e w' => e = .returned (.bool (irOk b)) ∧ Ext w w' := by
  obtain ⟨pc, len, A, c, ops, end_, bx, by_, bk⟩ := b
  unfold RBk at h
  simp only at h hn ⊢
  cases hL : inB len 1 8
  · have L := hid hL
    have E := hid (show irOk ⟨pc, len, A, c, ops, end_, bx, by_, bk⟩ = false by unfold irOk; simp only; rw [hL]; rfl)
    clear hL
    unfold Bk.val Bk.cells
    simp only
    go_enter Try.func20, Try.ntmps20
    go_wp2_with fail
    refine (specL1In _ _ _ _).mono ?_
    rintro e w' ⟨rfl, rfl⟩
    rw [L.out]
    go_wp2
    go_ret
    exact ⟨ret_bool E.out.symm, (by repeat (first | with_reducible assumption | with_reducible exact Ext.refl _ | with_reducible apply Ext.drewN | with_reducible apply Ext.drew | with_reducible apply Ext.alloc | with_reducible refine Ext.set ?_ (by first | (simp; done) | (simp; omega)) _ | with_reducible refine Ext.next ?_ (by with_reducible assumption)))⟩
  have hlen := len_of hL
  have HB := hid hlen
  cases hP : inB pc 0 (64 - len)
  · have L := hid hL
    have P := hid hP
    have E := hid (show irOk ⟨pc, len, A, c, ops, end_, bx, by_, bk⟩ = false by unfold irOk; simp only; rw [hL, hP]; rfl)
    clear hL hP
    unfold Bk.val Bk.cells
    simp only
    go_enter Try.func20, Try.ntmps20
    go_wp2_with fail
    refine (specL1In _ _ _ _).mono ?_
    rintro e w' ⟨rfl, rfl⟩
    rw [L.out]
    go_wp2_with fail
    refine (specL1In _ _ _ _).mono ?_
    rintro e w' ⟨rfl, rfl⟩
    rw [P.out]
    go_wp2
    go_ret
    exact ⟨ret_bool E.out.symm, (by repeat (first | with_reducible assumption | with_reducible exact Ext.refl _ | with_reducible apply Ext.drewN | with_reducible apply Ext.drew | with_reducible apply Ext.alloc | with_reducible refine Ext.set ?_ (by first | (simp; done) | (simp; omega)) _ | with_reducible refine Ext.next ?_ (by with_reducible assumption)))⟩
  by_cases h48 : 48 < ops.length
  · have L := hid hL
    have P := hid hP
    have E := hid (show irOk ⟨pc, len, A, c, ops, end_, bx, by_, bk⟩ = false by unfold irOk; simp only; rw [hL, hP, decide_eq_false (by omega)]; rfl)
    clear hL hP
    unfold Bk.val Bk.cells
    simp only
    go_enter Try.func20, Try.ntmps20
    go_wp2_with fail
    refine (specL1In _ _ _ _).mono ?_
    rintro e w' ⟨rfl, rfl⟩
    rw [L.out]
    go_wp2_with fail
    refine (specL1In _ _ _ _).mono ?_
    rintro e w' ⟨rfl, rfl⟩
    rw [P.out]
    go_wp2
    go_ret
    exact ⟨ret_bool E.out.symm, (by repeat (first | with_reducible assumption | with_reducible exact Ext.refl _ | with_reducible apply Ext.drewN | with_reducible apply Ext.drew | with_reducible apply Ext.alloc | with_reducible refine Ext.set ?_ (by first | (simp; done) | (simp; omega)) _ | with_reducible refine Ext.next ?_ (by with_reducible assumption)))⟩
  have hl : ops.length ≤ 48 := by omega
  have E := hid (show irOk ⟨pc, len, A, c, ops, end_, bx, by_, bk⟩ = (allOps ops len ops.length && endB ops end_ bx by_ bk) by unfold irOk; simp only; rw [hL, hP, decide_eq_true hl]; rfl)
  have L := hid hL
  have P := hid hP
  clear hL hP hn
  unfold Bk.val Bk.cells
  simp only
  go_enter Try.func20, Try.ntmps20
  go_wp2_with fail
  refine (specL1In _ _ _ _).mono ?_
  rintro e w' ⟨rfl, rfl⟩
  rw [L.out]
  go_wp2_with fail
  refine (specL1In _ _ _ _).mono ?_
  rintro e w' ⟨rfl, rfl⟩
  rw [P.out]
  go_wp2
  go_loopw [3] (fun i wr => ∃ j : Nat, j ≤ ops.length ∧ i = .int .i64 j ∧ allOps ops len j = true ∧ At7 wr w.heap.size ⟨pc, len, A, c, ops, end_, bx, by_, bk⟩ ∧ Ext w wr) (fun i _ => ops.length - (intOf i).toNat)
  case atStart => exact ⟨0, Nat.zero_le _, rfl, allOps_zero _ _, by unfold At7; refine ⟨?_, ?_, ?_, ?_, ?_, ?_, ?_⟩ <;> go_simp, (by repeat (first | with_reducible assumption | with_reducible exact Ext.refl _ | with_reducible apply Ext.drewN | with_reducible apply Ext.drew | with_reducible apply Ext.alloc | with_reducible refine Ext.set ?_ (by first | (simp; done) | (simp; omega)) _ | with_reducible refine Ext.next ?_ (by with_reducible assumption)))⟩
  case round =>
    obtain ⟨j, hj, rfl, hall, h7, hext⟩ := hrel
    have HA := hid hall
    have H7 := hid h7
    clear hall
    unfold At7 at h7
    simp only at h7
    obtain ⟨d0, d1, d2, d3, d4, d5, d6⟩ := h7
    by_cases hlt : j < ops.length
    · obtain ⟨o, ho⟩ : ∃ o, ops[j]? = some o := ⟨_, List.getElem?_eq_getElem hlt⟩
      have HO := hid ho
      cases hv : opB ops len j o
      · have HV := hid hv
        have HE := hid (show irOk ⟨pc, len, A, c, ops, end_, bx, by_, bk⟩ = false by rw [E.out, allOps_bad ho hv hlt]; rfl)
        clear hv
        go_wp2_with fail
        refine (specOpOk A c ops len j o _ (h.ext hext) ho HB.out hl HV.out).mono ?_
        rintro e w1 ⟨rfl, hw1⟩
        go_wp2
        go_ret
        exact ⟨ret_bool HE.out.symm, (by repeat (first | with_reducible assumption | with_reducible exact Ext.refl _ | with_reducible apply Ext.drewN | with_reducible apply Ext.drew | with_reducible apply Ext.alloc | with_reducible refine Ext.set ?_ (by first | (simp; done) | (simp; omega)) _ | with_reducible refine Ext.next ?_ (by with_reducible assumption)))⟩
      · have HV := hid hv
        have HS := hid (allOps_step HA.out ho hv)
        clear hv
        go_wp2_with fail
        refine (specOpOk A c ops len j o _ (h.ext hext) ho HB.out hl HV.out).mono ?_
        rintro e w1 ⟨rfl, hw1⟩
        have K7 := hid (H7.out.ext hw1)
        go_wp2
        go_roundw
        case rel => exact ⟨j + 1, by omega, by go_num, HS.out, K7.out, (by repeat (first | with_reducible assumption | with_reducible exact Ext.refl _ | with_reducible apply Ext.drewN | with_reducible apply Ext.drew | with_reducible apply Ext.alloc | with_reducible refine Ext.set ?_ (by first | (simp; done) | (simp; omega)) _ | with_reducible refine Ext.next ?_ (by with_reducible assumption)))⟩
        case measure => simp [intOf]; omega
    · obtain rfl : j = ops.length := by omega
      have HE := hid (show irOk ⟨pc, len, A, c, ops, end_, bx, by_, bk⟩ = endB ops end_ bx by_ bk by rw [E.out, HA.out]; rfl)
      go_wp2_with fail
      refine (specEndOk ⟨pc, len, A, c, ops, end_, bx, by_, bk⟩ _ (h.ext hext) hl).mono ?_
      rintro e w1 ⟨rfl, hw1⟩
      go_wp2
      go_ret
      exact ⟨ret_bool HE.out.symm, (by repeat (first | with_reducible assumption | with_reducible exact Ext.refl _ | with_reducible apply Ext.drewN | with_reducible apply Ext.drew | with_reducible apply Ext.alloc | with_reducible refine Ext.set ?_ (by first | (simp; done) | (simp; omega)) _ | with_reducible refine Ext.next ?_ (by with_reducible assumption)))⟩
end Go.Proofs.Ytcjeeggffeoilaa
