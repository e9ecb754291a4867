/- Contracts of what measures, copies, compares and marks tables of atoms (the laws' own helpers). Conditions: lengths that a machine can hold. -/
import Derived.Test.YtkdggfkigjpbfaaTA
namespace Go.Proofs.Ytkdggfkigjpbfaa
open Go Go.RowKit
set_option linter.unusedVariables false
set_option linter.unusedSimpArgs false

theorem bcell_ {W w1 : World} (hb : Ext W w1) : (∀ b o, b < W.heap.size → w1.cell? ⟨b, o, none⟩ = W.cell? ⟨b, o, none⟩) ∧ (∀ b o, b < W.heap.size → w1.frozen? ⟨b, o, none⟩ = W.frozen? ⟨b, o, none⟩) :=
  ⟨fun b o h => hb.cell (p := ⟨b, o, none⟩) h, fun b o h => hb.frozen (p := ⟨b, o, none⟩) h⟩
theorem szF_add {left : Int} {a b : Nat} (h : (a : Int) ≤ left) : szF (left - a) b = szF left (a + b) := by
  unfold szF
  split <;> split <;> omega

theorem totT_append : ∀ a b : List Tn, totT (a ++ b) = totT a + totT b
  | [], b => by simp [totT]
  | x :: a, b => by rw [List.cons_append, totT_cons, totT_cons, totT_append a b]; omega
theorem totT_len (a : List Tn) : a.length ≤ totT a := by unfold totT; omega
theorem totT_rest (ts : List Tn) (j : Nat) (h : j ≤ ts.length) : totT (ts.take j) + (ts.length - j) ≤ totT ts := by
  have e := totT_append (ts.take j) (ts.drop j)
  rw [List.take_append_drop] at e
  have := totT_len (ts.drop j)
  rw [List.length_drop] at this
  omega

theorem szAtom (kd kn : Int) (A1 A2 : Option Addr) (k1 k2 : Nat) (xs ys : List Mn) (left : Int) (w : World) (h : AM w A1 xs) (h' : AM w A2 ys) (hs : SzA xs) (hs' : SzA ys) (h0 : 0 ≤ left) (h1 : left ≤ 1048576) :
    Calls Try.prog 33 #[.agg #[.int .i64 kd, .int .i64 kn, .slice A1 xs.length k1, .slice A2 ys.length k2], .int .i64 left] w fun e w' => e = .returned (.int .i64 (szF left (totM xs + totM ys))) ∧ Ext w w' := by
  by_cases hq : left < totM xs
  · have e1 := hid (szF_lt hq)
    have et := hid (szF_lt (left := left) (n := totM xs + totM ys) (by omega))
    go_enter Try.func33, Try.ntmps33
    go_wp2_with fail
    refine (szPoly _ _ _ _ _ (h.ext (by repeat (first | with_reducible assumption | with_reducible exact Ext.refl _ | with_reducible apply Ext.drewN | with_reducible apply Ext.drew | with_reducible apply Ext.alloc | with_reducible refine Ext.set ?_ (by first | (simp; done) | (simp; omega)) _ | with_reducible refine Ext.next ?_ (by with_reducible assumption)))) hs h0 h1).mono ?_
    rintro e w1 ⟨rfl, hw1⟩
    rw [e1.out]
    go_wp2
    go_ret
    exact ⟨ret_int et.out.symm, (by repeat (first | with_reducible assumption | with_reducible exact Ext.refl _ | with_reducible apply Ext.drewN | with_reducible apply Ext.drew | with_reducible apply Ext.alloc | with_reducible refine Ext.set ?_ (by first | (simp; done) | (simp; omega)) _ | with_reducible refine Ext.next ?_ (by with_reducible assumption)))⟩
  have e1 := hid (szF_ge (left := left) (n := totM xs) (by omega))
  have ea := hid (szF_add (left := left) (a := totM xs) (b := totM ys) (by omega))
  by_cases hr : left - totM xs < totM ys
  · have e2 := hid (szF_lt hr)
    go_enter Try.func33, Try.ntmps33
    go_wp2_with fail
    refine (szPoly _ _ _ _ _ (h.ext (by repeat (first | with_reducible assumption | with_reducible exact Ext.refl _ | with_reducible apply Ext.drewN | with_reducible apply Ext.drew | with_reducible apply Ext.alloc | with_reducible refine Ext.set ?_ (by first | (simp; done) | (simp; omega)) _ | with_reducible refine Ext.next ?_ (by with_reducible assumption)))) hs h0 h1).mono ?_
    rintro e w1 ⟨rfl, hw1⟩
    rw [e1.out]
    obtain ⟨hc1, hf1⟩ := bcell_ hw1
    have hz1 : w.heap.size < w1.heap.size := by have := hw1.size; simp at this; omega
    go_wp2_with fail
    refine (szPoly _ _ _ _ _ (h'.ext (by repeat (first | with_reducible assumption | with_reducible exact Ext.refl _ | with_reducible apply Ext.drewN | with_reducible apply Ext.drew | with_reducible apply Ext.alloc | with_reducible refine Ext.set ?_ (by first | (simp; done) | (simp; omega)) _ | with_reducible refine Ext.next ?_ (by with_reducible assumption)))) hs' (by omega) (by omega)).mono ?_
    rintro e w2 ⟨rfl, hw2⟩
    rw [e2.out]
    go_wp2
    go_ret
    exact ⟨ret_int (by rw [← ea.out, e2.out]), (by repeat (first | with_reducible assumption | with_reducible exact Ext.refl _ | with_reducible apply Ext.drewN | with_reducible apply Ext.drew | with_reducible apply Ext.alloc | with_reducible refine Ext.set ?_ (by first | (simp; done) | (simp; omega)) _ | with_reducible refine Ext.next ?_ (by with_reducible assumption)))⟩
  · have e2 := hid (szF_ge (left := left - totM xs) (n := totM ys) (by omega))
    go_enter Try.func33, Try.ntmps33
    go_wp2_with fail
    refine (szPoly _ _ _ _ _ (h.ext (by repeat (first | with_reducible assumption | with_reducible exact Ext.refl _ | with_reducible apply Ext.drewN | with_reducible apply Ext.drew | with_reducible apply Ext.alloc | with_reducible refine Ext.set ?_ (by first | (simp; done) | (simp; omega)) _ | with_reducible refine Ext.next ?_ (by with_reducible assumption)))) hs h0 h1).mono ?_
    rintro e w1 ⟨rfl, hw1⟩
    rw [e1.out]
    obtain ⟨hc1, hf1⟩ := bcell_ hw1
    have hz1 : w.heap.size < w1.heap.size := by have := hw1.size; simp at this; omega
    go_wp2_with fail
    refine (szPoly _ _ _ _ _ (h'.ext (by repeat (first | with_reducible assumption | with_reducible exact Ext.refl _ | with_reducible apply Ext.drewN | with_reducible apply Ext.drew | with_reducible apply Ext.alloc | with_reducible refine Ext.set ?_ (by first | (simp; done) | (simp; omega)) _ | with_reducible refine Ext.next ?_ (by with_reducible assumption)))) hs' (by omega) (by omega)).mono ?_
    rintro e w2 ⟨rfl, hw2⟩
    rw [e2.out]
    go_wp2
    go_ret
    exact ⟨ret_int (by rw [← ea.out, e2.out]), (by repeat (first | with_reducible assumption | with_reducible exact Ext.refl _ | with_reducible apply Ext.drewN | with_reducible apply Ext.drew | with_reducible apply Ext.alloc | with_reducible refine Ext.set ?_ (by first | (simp; done) | (simp; omega)) _ | with_reducible refine Ext.next ?_ (by with_reducible assumption)))⟩

set_option maxHeartbeats 400000 in
theorem szAtomS (A : Option Addr) (k : Nat) (ts : List Tn) (left : Int) (w : World) (h : AT w A ts) (hs : SzAT ts) (h0 : 0 ≤ left) (h1 : left ≤ 1048576) :
    Calls Try.prog 17 #[.slice A ts.length k, .int .i64 left] w fun e w' => e = .returned (.int .i64 (szF left (totT ts))) ∧ Ext w w' := by
  have hn := hs.1
  by_cases hl : left < ts.length
  · have e := hid (szF_lt (left := left) (n := totT ts) (by unfold totT; omega))
    go_enter Try.func17, Try.ntmps17
    go_wp2
    go_ret
    exact ⟨ret_int e.out.symm, (by repeat (first | with_reducible assumption | with_reducible exact Ext.refl _ | with_reducible apply Ext.drewN | with_reducible apply Ext.drew | with_reducible apply Ext.alloc))⟩
  · go_enter Try.func17, Try.ntmps17
    go_wp2
    go_loopw [1, 5] (fun v i wr => ∃ j : Nat, j ≤ ts.length ∧ i = .int .i64 j ∧ v = .int .i64 (left - ts.length - (totT (ts.take j) - j : Nat)) ∧ 0 ≤ left - ts.length - (totT (ts.take j) - j : Nat) ∧ Ext w wr) (fun _ i _ => ts.length - (intOf i).toNat)
    case atStart => exact ⟨0, Nat.zero_le _, rfl, by simp [totT], by simp [totT]; omega, (by repeat (first | with_reducible assumption | with_reducible exact Ext.refl _ | with_reducible apply Ext.drewN | with_reducible apply Ext.drew | with_reducible apply Ext.alloc))⟩
    case round =>
      obtain ⟨j, hj, rfl, rfl, hp, hext⟩ := hrel
      by_cases hlt : j < ts.length
      · obtain ⟨b, o, ⟨tk, tn, B1, c1, xs, B2, c2, ys⟩, rfl, hb, hm, hc0, hc1, hc2, hc3, hI1, hI2⟩ := (h.ext hext).at_ hlt
        have HT := hid (totT_take hm)
        have HL := hid (totT_le ts (j + 1))
        have HJ : Hid (j ≤ totT (ts.take j)) := hid (by unfold totT; rw [List.length_take]; omega)
        have HJ1 := hid (totT_rest ts (j + 1) hlt)
        obtain ⟨hsz1, hsz2⟩ := hs.at_ hm
        simp only at hc0 hc1 hc2 hc3 hI1 hI2 hsz1 hsz2 HT
        clear hm h
        generalize hS : totT (ts.take j) = S at *
        clear hS
        have hjS := HJ.out
        obtain ⟨D, hD⟩ : ∃ D : Nat, S - j = D := ⟨_, rfl⟩
        have HD := hid hD
        rw [hD] at hp ⊢
        clear hD
        go_wp2_with fail
        refine (szAtom _ _ _ _ _ _ xs ys _ _ hI1 hI2 hsz1 hsz2 hp (by omega)).mono ?_
        rintro e w1 ⟨rfl, hw1⟩
        by_cases hq : left - ts.length - (D : Int) < (totM xs + totM ys : Nat)
        · have e1 := hid (szF_lt hq)
          have hb : szF (left - ts.length - (D : Int)) (totM xs + totM ys) < 0 := by rw [szF_lt hq]; omega
          have e2 := hid (szF_lt (left := left) (n := totT ts) (by have := HT.out; have := HL.out; have := HD.out; have := HJ1.out; omega))
          go_wp2
          go_ret
          exact ⟨ret_int e2.out.symm, hext.next hw1⟩
        · have e1 := hid (szF_ge (left := left - ts.length - (D : Int)) (n := totM xs + totM ys) (by omega))
          have hb : 0 ≤ szF (left - ts.length - (D : Int)) (totM xs + totM ys) := by rw [szF_ge (by omega)]; omega
          have e3 : Hid (((totT (ts.take (j + 1)) - (j + 1) : Nat) : Int) = D + (totM xs + totM ys : Nat)) := hid (by have := HT.out; have := HD.out; omega)
          go_wp2
          go_roundw
          case rel => exact ⟨j + 1, by omega, by go_num, by rw [e1.out, e3.out]; go_num, by rw [e3.out]; omega, hext.next hw1⟩
          case measure => simp [intOf]; omega
      · have e2 : Hid (szF left (totT ts) = left - ts.length - (totT (ts.take j) - j : Nat)) := by
          have : ts.take j = ts := List.take_of_length_le (by omega)
          have hjl : j = ts.length := by omega
          have hlt : ts.length ≤ totT ts := by unfold totT; omega
          rw [this] at hp ⊢
          show szF left (totT ts) = _
          rw [szF_ge (by omega)]
          omega
        go_wp2
        go_ret
        exact ⟨ret_int e2.out.symm, hext⟩

theorem szTab (A : Option Addr) (k : Nat) (ts : List Tn) (left : Int) (w : World) (h : AT w A ts) (hs : SzAT ts) (h0 : 0 ≤ left) (h1 : left ≤ 1048576) :
    Calls Try.prog 5 #[.agg #[.slice A ts.length k], .int .i64 left] w fun e w' => e = .returned (.int .i64 (szF left (totT ts))) ∧ Ext w w' := by
  by_cases hq : left < totT ts
  · have e1 := hid (szF_lt hq)
    have hb : szF left (totT ts) < 0 := by rw [szF_lt hq]; omega
    go_enter Try.func5, Try.ntmps5
    go_wp2_with fail
    refine (szAtomS _ _ _ _ _ (h.ext (by repeat (first | with_reducible assumption | with_reducible exact Ext.refl _ | with_reducible apply Ext.drewN | with_reducible apply Ext.drew | with_reducible apply Ext.alloc))) hs h0 h1).mono ?_
    rintro e w1 ⟨rfl, hw1⟩
    go_wp2
    go_ret
    exact ⟨ret_int e1.out.symm, (Ext.next (by repeat (first | with_reducible assumption | with_reducible exact Ext.refl _ | with_reducible apply Ext.drewN | with_reducible apply Ext.drew | with_reducible apply Ext.alloc)) hw1)⟩
  · have hb : 0 ≤ szF left (totT ts) := by rw [szF_ge (by omega)]; omega
    go_enter Try.func5, Try.ntmps5
    go_wp2_with fail
    refine (szAtomS _ _ _ _ _ (h.ext (by repeat (first | with_reducible assumption | with_reducible exact Ext.refl _ | with_reducible apply Ext.drewN | with_reducible apply Ext.drew | with_reducible apply Ext.alloc))) hs h0 h1).mono ?_
    rintro e w1 ⟨rfl, hw1⟩
    go_wp2
    go_ret
    exact ⟨rfl, (Ext.next (by repeat (first | with_reducible assumption | with_reducible exact Ext.refl _ | with_reducible apply Ext.drewN | with_reducible apply Ext.drew | with_reducible apply Ext.alloc)) hw1)⟩
end Go.Proofs.Ytkdggfkigjpbfaa
