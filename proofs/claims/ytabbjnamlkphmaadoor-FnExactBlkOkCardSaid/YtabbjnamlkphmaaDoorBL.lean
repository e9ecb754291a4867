/- Pieces of code as lists of instructions: contracts of BlkOk, BlkWords, BlkTake of both sides. Conditions: the table of forms is laid; lengths that a machine can hold. -/
import Derived.Test.YtabbjnamlkphmaaDoorIT
import Derived.Test.YtabbjnamlkphmaaDoorDW
namespace Go.Proofs.YtabbjnamlkphmaaDoor
open Go Go.RowKit
set_option linter.unusedVariables false
set_option linter.unusedSimpArgs false

def blkAt (n j : Nat) (x : In4) : Bool := insOk x.o x.d x.a x.k && (!(x.o == 0) && !(insEnds x.o && decide (j + 1 < n)))
def blkAll (l : List In4) : Bool := (List.range l.length).all fun j => (l[j]?.map (blkAt l.length j)).getD true
def blkOk (pc : Int) (l : List In4) : Bool := inB l.length 1 8 && (inB pc 0 (64 - l.length) && blkAll l)
theorem blkAll_of {l : List In4} (h : ∀ j x, l[j]? = some x → blkAt l.length j x = true) : blkAll l = true := by
  unfold blkAll
  rw [List.all_eq_true]
  intro j hj
  rw [List.mem_range] at hj
  rw [List.getElem?_eq_getElem hj]
  exact h j _ (List.getElem?_eq_getElem hj)
theorem blkAll_not {l : List In4} {j : Nat} {x : In4} (hx : l[j]? = some x) (h : blkAt l.length j x = false) : blkAll l = false := by
  unfold blkAll
  rw [List.all_eq_false]
  exact ⟨j, List.mem_range.2 (List.getElem?_eq_some_iff.1 hx).1, by rw [hx]; simp [h]⟩
def plainB (x : In4) : Bool := insOk x.o x.d x.a x.k && (!(x.o == 0) && !insEnds x.o)
theorem specPlain (x : In4) (w : World) : Calls Tryd.prog 42 #[.agg #[.int .i64 x.o, .int .i64 x.d, .int .i64 x.a, .int .i64 x.k]] w fun e w' => e = .returned (.bool (plainB x)) ∧ Ext w w' := by
  go_enter Tryd.func42, Tryd.ntmps42
  go_wp2_with fail
  refine (specInsOk _ _ _ _ _).mono ?_
  rintro e w1 ⟨rfl, hw1⟩
  obtain ⟨hc1, hf1⟩ := bcell1 hw1
  have hz1 : w.heap.size < w1.heap.size := by have := hw1.size; simp at this; omega
  go_wp2_with (go_at_call 43; refine (specInsEnds _ _).mono ?_; rintro e w' ⟨rfl, rfl⟩)
  all_goals
    go_ret
    exact ⟨ret_bool (by simp_all [plainB, bne]), (by repeat (first | with_reducible assumption | with_reducible exact Ext.refl _ | with_reducible apply Ext.drewN | with_reducible apply Ext.drew | with_reducible apply Ext.alloc | with_reducible refine Ext.set ?_ (by first | (simp; done) | (simp; omega)) _ | with_reducible refine Ext.next ?_ (by with_reducible assumption)))⟩

set_option maxRecDepth 100000 in
set_option maxHeartbeats 1000000 in
theorem implBlkOk (pc : Int) (A : Option Addr) (k : Nat) (l : List In4) (w : World) (h : RIn4 25 w A l) (hn : l.length < 4611686018427387904) (hF : LaidAt w) :
    Calls Tryd.prog 21 #[.int .i64 pc, .slice A l.length k] w fun e w' => e = .returned (.bool (blkOk pc l)) ∧ Ext w w' := by
  have hn' : (l.length : Int) < 4611686018427387904 := by omega
  cases b1 : inB l.length 1 8
  · have E := hid (show blkOk pc l = false by simp [blkOk, b1])
    have H1 := hid b1
    clear b1
    go_enter Tryd.func21, Tryd.ntmps21
    go_wp2_with (go_at_call 39; refine (implIn _ _ _ _).mono ?_; rintro e w' ⟨rfl, rfl⟩; first | rw [H1.out] | skip)
    go_ret
    exact ⟨ret_bool E.out.symm, (by repeat (first | with_reducible assumption | with_reducible exact Ext.refl _ | with_reducible apply Ext.drewN | with_reducible apply Ext.drew | with_reducible apply Ext.alloc | with_reducible refine Ext.set ?_ (by first | (simp; done) | (simp; omega)) _ | with_reducible refine Ext.next ?_ (by with_reducible assumption)))⟩
  cases b2 : inB pc 0 (64 - l.length)
  · have E := hid (show blkOk pc l = false by simp [blkOk, b2])
    have H1 := hid b1
    have H2 := hid b2
    clear b1 b2
    go_enter Tryd.func21, Tryd.ntmps21
    go_wp2_with (go_at_call 39; refine (implIn _ _ _ _).mono ?_; rintro e w' ⟨rfl, rfl⟩; first | rw [H1.out] | rw [H2.out])
    go_ret
    exact ⟨ret_bool E.out.symm, (by repeat (first | with_reducible assumption | with_reducible exact Ext.refl _ | with_reducible apply Ext.drewN | with_reducible apply Ext.drew | with_reducible apply Ext.alloc | with_reducible refine Ext.set ?_ (by first | (simp; done) | (simp; omega)) _ | with_reducible refine Ext.next ?_ (by with_reducible assumption)))⟩
  have E : Hid (blkOk pc l = blkAll l) := hid (by simp [blkOk, b1, b2])
  have hl8 : l.length ≤ 8 := by simp [inB] at b1; omega
  have H1 := hid b1
  have H2 := hid b2
  clear b1 b2
  rw [E.out]
  go_enter Tryd.func21, Tryd.ntmps21
  go_wp2_with (go_at_call 39; refine (implIn _ _ _ _).mono ?_; rintro e w' ⟨rfl, rfl⟩; first | rw [H1.out] | rw [H2.out])
  go_loopw [5, 6, 21] (fun _ _ i wr => ∃ j : Nat, j ≤ l.length ∧ i = .int .i64 j ∧ (∀ t, t < j → ∀ x, l[t]? = some x → blkAt l.length t x = true) ∧ Ext w wr) (fun _ _ i _ => l.length - (intOf i).toNat)
  case atStart => exact ⟨0, Nat.zero_le _, rfl, (fun t ht => absurd ht (by omega)), (by repeat (first | with_reducible assumption | with_reducible exact Ext.refl _ | with_reducible apply Ext.drewN | with_reducible apply Ext.drew | with_reducible apply Ext.alloc | with_reducible refine Ext.set ?_ (by first | (simp; done) | (simp; omega)) _ | with_reducible refine Ext.next ?_ (by with_reducible assumption)))⟩
  case round =>
    obtain ⟨j, hj, rfl, hall, hext⟩ := hrel
    have HA := hid hall
    clear hall
    by_cases hlt : j < l.length
    · obtain ⟨b, o, x, rfl, hb, hx, hc0, hc1, hc2, hc3⟩ := (h.ext hext).at_ hlt
      have HX := hid hx
      clear hx h
      obtain ⟨xo, xd, xa, xk⟩ := x
      simp only at hc0 hc1 hc2 hc3
      have HB : Hid (blkAt l.length j ⟨xo, xd, xa, xk⟩ = (insOk xo xd xa xk && (!(xo == 0) && !(insEnds xo && decide (j + 1 < l.length))))) := hid rfl
      go_wp2_with fail
      refine (implInsOk _ _ _ _ _ (hF.ext (by repeat (first | with_reducible assumption | with_reducible exact Ext.refl _ | with_reducible apply Ext.drewN | with_reducible apply Ext.drew | with_reducible apply Ext.alloc | with_reducible refine Ext.set ?_ (by first | (simp; done) | (simp; omega)) _ | with_reducible refine Ext.next ?_ (by with_reducible assumption))))).mono ?_
      rintro e w1 ⟨rfl, hw1⟩
      obtain ⟨hd1, hf1⟩ := bcell1 hw1
      have hz1 : wr.heap.size < w1.heap.size := by have := hw1.size; simp at this; omega
      cases ok : insOk xo xd xa xk
      · have HN := hid (blkAll_not HX.out (by rw [HB.out, ok] <;> rfl))
        clear ok
        go_wp2
        go_ret
        exact ⟨ret_bool HN.out.symm, (by repeat (first | with_reducible assumption | with_reducible exact Ext.refl _ | with_reducible apply Ext.drewN | with_reducible apply Ext.drew | with_reducible apply Ext.alloc | with_reducible refine Ext.set ?_ (by first | (simp; done) | (simp; omega)) _ | with_reducible refine Ext.next ?_ (by with_reducible assumption)))⟩
      cases oz : xo == 0
      rotate_left
      · have HN := hid (blkAll_not HX.out (by rw [HB.out, ok, oz] <;> rfl))
        clear ok
        go_wp2
        go_ret
        exact ⟨ret_bool HN.out.symm, (by repeat (first | with_reducible assumption | with_reducible exact Ext.refl _ | with_reducible apply Ext.drewN | with_reducible apply Ext.drew | with_reducible apply Ext.alloc | with_reducible refine Ext.set ?_ (by first | (simp; done) | (simp; omega)) _ | with_reducible refine Ext.next ?_ (by with_reducible assumption)))⟩
      cases oe : insEnds xo
      · have HY : Hid (blkAt l.length j ⟨xo, xd, xa, xk⟩ = true) := hid (by rw [HB.out, ok, oz, oe] <;> rfl)
        have OE := hid oe
        clear ok oe
        go_wp2_with (go_at_call 44; refine (implInsEnds _ _).mono ?_; rintro e w' ⟨rfl, rfl⟩; rw [OE.out])
        go_roundw
        case rel =>
          refine ⟨j + 1, by omega, by go_num, fun t ht x' hx' => ?_, (by repeat (first | with_reducible assumption | with_reducible exact Ext.refl _ | with_reducible apply Ext.drewN | with_reducible apply Ext.drew | with_reducible apply Ext.alloc | with_reducible refine Ext.set ?_ (by first | (simp; done) | (simp; omega)) _ | with_reducible refine Ext.next ?_ (by with_reducible assumption)))⟩
          rcases Nat.lt_or_ge t j with h1 | h1
          · exact HA.out t h1 x' hx'
          · obtain rfl : t = j := by omega
            rw [HX.out] at hx'
            injection hx' with hx'
            rw [← hx']
            exact HY.out
        case measure => simp [intOf]; omega
      by_cases hlast : j + 1 < l.length
      · have HN := hid (blkAll_not HX.out (by rw [HB.out, ok, oz, oe, decide_eq_true hlast] <;> rfl))
        have OE := hid oe
        have hJ : decide ((j : Int) < (l.length : Int) - 1) = true := decide_eq_true (by omega)
        clear ok oe hlast
        go_wp2_with (go_at_call 44; refine (implInsEnds _ _).mono ?_; rintro e w' ⟨rfl, rfl⟩; rw [OE.out])
        go_ret
        exact ⟨ret_bool HN.out.symm, (by repeat (first | with_reducible assumption | with_reducible exact Ext.refl _ | with_reducible apply Ext.drewN | with_reducible apply Ext.drew | with_reducible apply Ext.alloc | with_reducible refine Ext.set ?_ (by first | (simp; done) | (simp; omega)) _ | with_reducible refine Ext.next ?_ (by with_reducible assumption)))⟩
      · have HY : Hid (blkAt l.length j ⟨xo, xd, xa, xk⟩ = true) := hid (by rw [HB.out, ok, oz, oe, decide_eq_false hlast] <;> rfl)
        have OE := hid oe
        have hJ : decide ((j : Int) < (l.length : Int) - 1) = false := decide_eq_false (by omega)
        clear ok oe hlast
        go_wp2_with (go_at_call 44; refine (implInsEnds _ _).mono ?_; rintro e w' ⟨rfl, rfl⟩; rw [OE.out])
        go_roundw
        case rel =>
          refine ⟨j + 1, by omega, by go_num, fun t ht x' hx' => ?_, (by repeat (first | with_reducible assumption | with_reducible exact Ext.refl _ | with_reducible apply Ext.drewN | with_reducible apply Ext.drew | with_reducible apply Ext.alloc | with_reducible refine Ext.set ?_ (by first | (simp; done) | (simp; omega)) _ | with_reducible refine Ext.next ?_ (by with_reducible assumption)))⟩
          rcases Nat.lt_or_ge t j with h1 | h1
          · exact HA.out t h1 x' hx'
          · obtain rfl : t = j := by omega
            rw [HX.out] at hx'
            injection hx' with hx'
            rw [← hx']
            exact HY.out
        case measure => simp [intOf]; omega
    · have hf := hid (blkAll_of (l := l) fun t x hx => HA.out t (by have := (List.getElem?_eq_some_iff.1 hx).1; omega) x hx)
      go_wp2
      go_ret
      exact ⟨ret_bool hf.out.symm, hext⟩

set_option maxRecDepth 100000 in
set_option maxHeartbeats 1000000 in
theorem specBlkOk (pc : Int) (A : Option Addr) (k : Nat) (l : List In4) (w : World) (h : RIn4 25 w A l) (hn : l.length < 4611686018427387904) :
    Calls Tryd.prog 19 #[.int .i64 pc, .slice A l.length k] w fun e w' => e = .returned (.bool (blkOk pc l)) ∧ Ext w w' := by
  have hn' : (l.length : Int) < 4611686018427387904 := by omega
  cases b1 : inB l.length 1 8
  · have E := hid (show blkOk pc l = false by simp [blkOk, b1])
    have H1 := hid b1
    clear b1
    go_enter Tryd.func19, Tryd.ntmps19
    go_wp2_with (go_at_call 37; refine (specL1In _ _ _ _).mono ?_; rintro e w' ⟨rfl, rfl⟩; first | rw [H1.out] | skip)
    go_ret
    exact ⟨ret_bool E.out.symm, (by repeat (first | with_reducible assumption | with_reducible exact Ext.refl _ | with_reducible apply Ext.drewN | with_reducible apply Ext.drew | with_reducible apply Ext.alloc | with_reducible refine Ext.set ?_ (by first | (simp; done) | (simp; omega)) _ | with_reducible refine Ext.next ?_ (by with_reducible assumption)))⟩
  cases b2 : inB pc 0 (64 - l.length)
  · have E := hid (show blkOk pc l = false by simp [blkOk, b2])
    have H1 := hid b1
    have H2 := hid b2
    clear b1 b2
    go_enter Tryd.func19, Tryd.ntmps19
    go_wp2_with (go_at_call 37; refine (specL1In _ _ _ _).mono ?_; rintro e w' ⟨rfl, rfl⟩; first | rw [H1.out] | rw [H2.out])
    go_ret
    exact ⟨ret_bool E.out.symm, (by repeat (first | with_reducible assumption | with_reducible exact Ext.refl _ | with_reducible apply Ext.drewN | with_reducible apply Ext.drew | with_reducible apply Ext.alloc | with_reducible refine Ext.set ?_ (by first | (simp; done) | (simp; omega)) _ | with_reducible refine Ext.next ?_ (by with_reducible assumption)))⟩
  have E : Hid (blkOk pc l = blkAll l) := hid (by simp [blkOk, b1, b2])
  have hl8 : l.length ≤ 8 := by simp [inB] at b1; omega
  have H1 := hid b1
  have H2 := hid b2
  clear b1 b2
  rw [E.out]
  go_enter Tryd.func19, Tryd.ntmps19
  go_wp2_with (go_at_call 37; refine (specL1In _ _ _ _).mono ?_; rintro e w' ⟨rfl, rfl⟩; first | rw [H1.out] | rw [H2.out])
  go_loopw [5] (fun i wr => ∃ j : Nat, j ≤ l.length ∧ i = .int .i64 j ∧ (∀ t, t < j → ∀ x, l[t]? = some x → blkAt l.length t x = true) ∧ Ext w wr) (fun i _ => l.length - (intOf i).toNat)
  case atStart => exact ⟨0, Nat.zero_le _, rfl, (fun t ht => absurd ht (by omega)), (by repeat (first | with_reducible assumption | with_reducible exact Ext.refl _ | with_reducible apply Ext.drewN | with_reducible apply Ext.drew | with_reducible apply Ext.alloc | with_reducible refine Ext.set ?_ (by first | (simp; done) | (simp; omega)) _ | with_reducible refine Ext.next ?_ (by with_reducible assumption)))⟩
  case round =>
    obtain ⟨j, hj, rfl, hall, hext⟩ := hrel
    have HA := hid hall
    clear hall
    by_cases hlt : j < l.length
    · obtain ⟨b, o, x, rfl, hb, hx, hc0, hc1, hc2, hc3⟩ := (h.ext hext).at_ hlt
      have HX := hid hx
      clear hx h
      obtain ⟨xo, xd, xa, xk⟩ := x
      simp only at hc0 hc1 hc2 hc3
      have HB : Hid (blkAt l.length j ⟨xo, xd, xa, xk⟩ = (insOk xo xd xa xk && (!(xo == 0) && !(insEnds xo && decide (j + 1 < l.length))))) := hid rfl
      have hP : plainB ⟨xo, xd, xa, xk⟩ = (insOk xo xd xa xk && (!(xo == 0) && !insEnds xo)) := rfl
      cases ok : insOk xo xd xa xk
      · have HP := hid (hP.trans (by rw [ok] <;> rfl))
        have OK := hid ok
        have HN := hid (blkAll_not HX.out (by rw [HB.out, ok] <;> rfl))
        clear ok hP
        cases hJ : decide ((j : Int) < (l.length : Int) - 1)
        all_goals
          go_wp2_with (first | (go_at_call 42; (refine (specPlain ⟨xo, xd, xa, xk⟩ _).mono ?_); (rintro e w1 ⟨rfl, hw1⟩); rw [HP.out]; (have e0 := keep hw1 hc0); (have e1 := keep hw1 hc1); (have e2 := keep hw1 hc2); (have e3 := keep hw1 hc3)) | (go_at_call 10; (refine (specInsOk _ _ _ _ _).mono ?_); (rintro e w2 ⟨rfl, hw2⟩); rw [OK.out]; (have g0 := keep hw2 e0)) | (go_at_call 43; refine (specInsEnds _ _).mono ?_; rintro e w' ⟨rfl, rfl⟩; rw [OE.out]))
          go_ret
          exact ⟨ret_bool HN.out.symm, (by repeat (first | with_reducible assumption | with_reducible exact Ext.refl _ | with_reducible apply Ext.drewN | with_reducible apply Ext.drew | with_reducible apply Ext.alloc | with_reducible refine Ext.set ?_ (by first | (simp; done) | (simp; omega)) _ | with_reducible refine Ext.next ?_ (by with_reducible assumption)))⟩
      have OK := hid ok
      cases oe : insEnds xo
      · have OE := hid oe
        cases oz : xo == 0
        · have HP := hid (hP.trans (by rw [ok, oz, oe] <;> rfl))
          have HY : Hid (blkAt l.length j ⟨xo, xd, xa, xk⟩ = true) := hid (by rw [HB.out, ok, oz, oe] <;> rfl)
          clear ok oe hP oz
          go_wp2_with (first | (go_at_call 42; (refine (specPlain ⟨xo, xd, xa, xk⟩ _).mono ?_); (rintro e w1 ⟨rfl, hw1⟩); rw [HP.out]; (have e0 := keep hw1 hc0); (have e1 := keep hw1 hc1); (have e2 := keep hw1 hc2); (have e3 := keep hw1 hc3)) | (go_at_call 10; (refine (specInsOk _ _ _ _ _).mono ?_); (rintro e w2 ⟨rfl, hw2⟩); rw [OK.out]; (have g0 := keep hw2 e0)) | (go_at_call 43; refine (specInsEnds _ _).mono ?_; rintro e w' ⟨rfl, rfl⟩; rw [OE.out]))
          go_roundw
          case rel =>
            refine ⟨j + 1, by omega, by go_num, fun t ht x' hx' => ?_, (by repeat (first | with_reducible assumption | with_reducible exact Ext.refl _ | with_reducible apply Ext.drewN | with_reducible apply Ext.drew | with_reducible apply Ext.alloc | with_reducible refine Ext.set ?_ (by first | (simp; done) | (simp; omega)) _ | with_reducible refine Ext.next ?_ (by with_reducible assumption)))⟩
            rcases Nat.lt_or_ge t j with h1 | h1
            · exact HA.out t h1 x' hx'
            · obtain rfl : t = j := by omega
              rw [HX.out] at hx'
              injection hx' with hx'
              rw [← hx']
              exact HY.out
          case measure => simp [intOf]; omega
        · have HP := hid (hP.trans (by rw [ok, oz] <;> rfl))
          have HN := hid (blkAll_not HX.out (by rw [HB.out, ok, oz] <;> rfl))
          clear ok oe hP oz
          cases hJ : decide ((j : Int) < (l.length : Int) - 1)
          all_goals
            go_wp2_with (first | (go_at_call 42; (refine (specPlain ⟨xo, xd, xa, xk⟩ _).mono ?_); (rintro e w1 ⟨rfl, hw1⟩); rw [HP.out]; (have e0 := keep hw1 hc0); (have e1 := keep hw1 hc1); (have e2 := keep hw1 hc2); (have e3 := keep hw1 hc3)) | (go_at_call 10; (refine (specInsOk _ _ _ _ _).mono ?_); (rintro e w2 ⟨rfl, hw2⟩); rw [OK.out]; (have g0 := keep hw2 e0)) | (go_at_call 43; refine (specInsEnds _ _).mono ?_; rintro e w' ⟨rfl, rfl⟩; rw [OE.out]))
            go_ret
            exact ⟨ret_bool HN.out.symm, (by repeat (first | with_reducible assumption | with_reducible exact Ext.refl _ | with_reducible apply Ext.drewN | with_reducible apply Ext.drew | with_reducible apply Ext.alloc | with_reducible refine Ext.set ?_ (by first | (simp; done) | (simp; omega)) _ | with_reducible refine Ext.next ?_ (by with_reducible assumption)))⟩
      · have OE := hid oe
        have oz : (xo == 0) = false := by rw [beq_eq_false_iff_ne]; rintro rfl; revert oe; decide
        have HP := hid (hP.trans (by rw [ok, oz, oe] <;> rfl))
        by_cases hlast : j + 1 < l.length
        · have HN := hid (blkAll_not HX.out (by rw [HB.out, ok, oz, oe, decide_eq_true hlast] <;> rfl))
          have hJ : decide ((j : Int) < (l.length : Int) - 1) = true := decide_eq_true (by omega)
          clear ok oe hP oz hlast
          go_wp2_with (first | (go_at_call 42; (refine (specPlain ⟨xo, xd, xa, xk⟩ _).mono ?_); (rintro e w1 ⟨rfl, hw1⟩); rw [HP.out]; (have e0 := keep hw1 hc0); (have e1 := keep hw1 hc1); (have e2 := keep hw1 hc2); (have e3 := keep hw1 hc3)) | (go_at_call 10; (refine (specInsOk _ _ _ _ _).mono ?_); (rintro e w2 ⟨rfl, hw2⟩); rw [OK.out]; (have g0 := keep hw2 e0)) | (go_at_call 43; refine (specInsEnds _ _).mono ?_; rintro e w' ⟨rfl, rfl⟩; rw [OE.out]))
          go_ret
          exact ⟨ret_bool HN.out.symm, (by repeat (first | with_reducible assumption | with_reducible exact Ext.refl _ | with_reducible apply Ext.drewN | with_reducible apply Ext.drew | with_reducible apply Ext.alloc | with_reducible refine Ext.set ?_ (by first | (simp; done) | (simp; omega)) _ | with_reducible refine Ext.next ?_ (by with_reducible assumption)))⟩
        · have HY : Hid (blkAt l.length j ⟨xo, xd, xa, xk⟩ = true) := hid (by rw [HB.out, ok, oz, oe, decide_eq_false hlast] <;> rfl)
          have hJ : decide ((j : Int) < (l.length : Int) - 1) = false := decide_eq_false (by omega)
          clear ok oe hP oz hlast
          go_wp2_with (first | (go_at_call 42; (refine (specPlain ⟨xo, xd, xa, xk⟩ _).mono ?_); (rintro e w1 ⟨rfl, hw1⟩); rw [HP.out]; (have e0 := keep hw1 hc0); (have e1 := keep hw1 hc1); (have e2 := keep hw1 hc2); (have e3 := keep hw1 hc3)) | (go_at_call 10; (refine (specInsOk _ _ _ _ _).mono ?_); (rintro e w2 ⟨rfl, hw2⟩); rw [OK.out]; (have g0 := keep hw2 e0)) | (go_at_call 43; refine (specInsEnds _ _).mono ?_; rintro e w' ⟨rfl, rfl⟩; rw [OE.out]))
          go_roundw
          case rel =>
            refine ⟨j + 1, by omega, by go_num, fun t ht x' hx' => ?_, (by repeat (first | with_reducible assumption | with_reducible exact Ext.refl _ | with_reducible apply Ext.drewN | with_reducible apply Ext.drew | with_reducible apply Ext.alloc | with_reducible refine Ext.set ?_ (by first | (simp; done) | (simp; omega)) _ | with_reducible refine Ext.next ?_ (by with_reducible assumption)))⟩
            rcases Nat.lt_or_ge t j with h1 | h1
            · exact HA.out t h1 x' hx'
            · obtain rfl : t = j := by omega
              rw [HX.out] at hx'
              injection hx' with hx'
              rw [← hx']
              exact HY.out
          case measure => simp [intOf]; omega
    · have hf := hid (blkAll_of (l := l) fun t x hx => HA.out t (by have := (List.getElem?_eq_some_iff.1 hx).1; omega) x hx)
      go_wp2
      go_ret
      exact ⟨ret_bool hf.out.symm, hext⟩
end Go.Proofs.YtabbjnamlkphmaaDoor
