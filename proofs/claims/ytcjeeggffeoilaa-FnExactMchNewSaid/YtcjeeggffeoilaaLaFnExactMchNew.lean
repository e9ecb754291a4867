/- The law FnExactMchNew: MchNew returns what the reference's MchNew returns, for every two lists of words, in memory of its own, and leaves them as they are. Conditions: none. -/
import Derived.Test.YtcjeeggffeoilaaRows
import Derived.WalkKit
import Derived.ProofKit
import Derived.OpenShut
import Derived.ShutString
import Derived.ChangeOld
import Derived.Below
import Derived.Carry
import Derived.Test.YtcjeeggffeoilaaF
import Derived.Test.YtcjeeggffeoilaaK
import Derived.Test.YtcjeeggffeoilaaMO
import Derived.Test.YtcjeeggffeoilaaMH
import Derived.Deep.RegionHeld3
import Derived.Deep.DeepCutAuto
namespace Go.Proofs.Ytcjeeggffeoilaa.fnExactMchNew
open Go.ChangeShapes Go.WideShapes Go.ChangeAt Go.RowKit
set_option linter.unusedVariables false
set_option linter.unusedSimpArgs false

theorem newM_small {ws is : List Int} (h : is.length ≤ 1048576) {m : Mc} (e : m.dat = newM ws is) : SmMc m ∧ totMc m ≤ 2000000 := by
  unfold Mc.dat at e
  unfold SmMc totMc
  cases hk : newOk ws is
  · rw [newM_no hk] at e
    simp only [Prod.mk.injEq] at e
    obtain ⟨e0, _, e2, _, _, _, _, e7, e8, _⟩ := e
    rw [e0, e2, e7, e8]
    simp
  · rw [newM_yes hk] at e
    simp only [Prod.mk.injEq] at e
    obtain ⟨e0, _, e2, _, _, _, _, e7, e8, _⟩ := e
    have hw : ws.length ≤ 64 := by
      unfold newOk at hk
      simp only [Bool.and_eq_true] at hk
      have := hk.1
      simp at this
      omega
    rw [e0, e2, e7, e8, padM_length hw]
    simp
    omega
theorem Lies10.upd {S : Nat → Prop} {w w' : World} {b : Nat} {m : Mc} (h : Lies10 w b m) (he : Upd S w w') (hb : b < w.heap.size) (hs : ¬ S b) : Lies10 w' b m := by
  obtain ⟨h0, h1, h2, h3, h4, h5, h6, h7, h8, h9⟩ := h
  have k : ∀ o, w'.cell? ⟨b, o, none⟩ = w.cell? ⟨b, o, none⟩ := fun o => he.cell (p := ⟨b, o, none⟩) hb hs
  exact ⟨(k _).trans h0, (k _).trans h1, (k _).trans h2, (k _).trans h3, (k _).trans h4, (k _).trans h5, (k _).trans h6, (k _).trans h7, (k _).trans h8, (k _).trans h9⟩

set_option maxRecDepth 100000 in
set_option maxHeartbeats 2000000 in
theorem walk (A0 : Option Addr) (k0 : Nat) (xs0 : List Int) (A1 : Option Addr) (k1 : Nat) (xs1 : List Int) (w : World) (h0 : AI w A0 xs0) (s0 : xs0.length ≤ 9223372036854775807) (h1 : AI w A1 xs1) (s1 : xs1.length ≤ 9223372036854775807) :
    Calls Try.prog 4 #[.slice A0 xs0.length k0, .slice A1 xs1.length k1] w fun e w' => e = .returned (.bool true) ∧ Ext w w' := by
  by_cases hq : (1048576 : Int) < xs0.length
  · go_enter Try.func4, Try.ntmps4
    go_wp2
    go_ret
    exact ⟨rfl, (by repeat (first | with_reducible assumption | with_reducible exact Ext.refl _ | with_reducible apply Ext.drewN | with_reducible apply Ext.drew | with_reducible apply Ext.alloc | with_reducible refine Ext.set ?_ (by first | (simp; done) | (simp; omega)) _ | with_reducible refine Ext.next ?_ (by with_reducible assumption)))⟩
  by_cases hr : (1048576 : Int) < xs1.length
  · go_enter Try.func4, Try.ntmps4
    go_wp2
    go_ret
    exact ⟨rfl, (by repeat (first | with_reducible assumption | with_reducible exact Ext.refl _ | with_reducible apply Ext.drewN | with_reducible apply Ext.drew | with_reducible apply Ext.alloc | with_reducible refine Ext.set ?_ (by first | (simp; done) | (simp; omega)) _ | with_reducible refine Ext.next ?_ (by with_reducible assumption)))⟩
  have n0 : xs0.length ≤ 1048576 := by omega
  have n1 : xs1.length ≤ 1048576 := by omega
  obtain ⟨dd, hdd⟩ : ∃ d, d = newM xs0 xs1 := ⟨_, rfl⟩
  have HSM : Hid (∀ m : Mc, m.dat = dd → SmMc m ∧ totMc m ≤ 2000000) := hid fun m e => newM_small n1 (e.trans hdd)
  have HDD := hid hdd
  clear hdd
  go_enter Try.func4, Try.ntmps4
  go_wp2_with fail
  refine (toIntS _ _ _ _ (h0.ext (by repeat (first | with_reducible assumption | with_reducible exact Ext.refl _ | with_reducible apply Ext.drewN | with_reducible apply Ext.drew | with_reducible apply Ext.alloc | with_reducible refine Ext.set ?_ (by first | (simp; done) | (simp; omega)) _ | with_reducible refine Ext.next ?_ (by with_reducible assumption)))) n0).mono ?_
  rintro e w1 ⟨A2, k2, rfl, ho1, hw1⟩
  go_wp2_with fail
  refine (toIntS _ _ _ _ (h1.ext (by repeat (first | with_reducible assumption | with_reducible exact Ext.refl _ | with_reducible apply Ext.drewN | with_reducible apply Ext.drew | with_reducible apply Ext.alloc | with_reducible refine Ext.set ?_ (by first | (simp; done) | (simp; omega)) _ | with_reducible refine Ext.next ?_ (by with_reducible assumption)))) n1).mono ?_
  rintro e w2 ⟨A3, k3, rfl, ho2, hw2⟩
  go_wp2_with fail
  refine (specMchNew _ _ _ _ xs0 xs1 _ (ho1.ri.ext (by repeat (first | with_reducible assumption | with_reducible exact Ext.refl _ | with_reducible apply Ext.drewN | with_reducible apply Ext.drew | with_reducible apply Ext.alloc | with_reducible refine Ext.set ?_ (by first | (simp; done) | (simp; omega)) _ | with_reducible refine Ext.next ?_ (by with_reducible assumption)))) (ho2.ri.ext (by repeat (first | with_reducible assumption | with_reducible exact Ext.refl _ | with_reducible apply Ext.drewN | with_reducible apply Ext.drew | with_reducible apply Ext.alloc | with_reducible refine Ext.set ?_ (by first | (simp; done) | (simp; omega)) _ | with_reducible refine Ext.next ?_ (by with_reducible assumption)))) ho2.nilk n0 n1).mono ?_
  rintro e w3 ⟨m3, rfl, hd3, ho3, hp3, hw3⟩
  have HD3 : Hid (m3.dat = dd) := hid (by rw [hd3, HDD.out])
  have hs3 : SmMc m3 := (HSM.out m3 HD3.out).1
  have HX3 : Hid (Ext w w3) := hid (by repeat (first | with_reducible assumption | with_reducible exact Ext.refl _ | with_reducible apply Ext.drewN | with_reducible apply Ext.drew | with_reducible apply Ext.alloc | with_reducible refine Ext.set ?_ (by first | (simp; done) | (simp; omega)) _ | with_reducible refine Ext.next ?_ (by with_reducible assumption)))
  have HR3 := hid ho3.rm
  clear ho1 ho2 hd3 hp3 hw1 hw2 hw3 ho3
  unfold Mc.val Mc.cells
  go_wp2_with fail
  refine (toIntS _ _ _ _ (h0.ext (HX3.out.next (by repeat (first | with_reducible assumption | with_reducible exact Ext.refl _ | with_reducible apply Ext.drewN | with_reducible apply Ext.drew | with_reducible apply Ext.alloc | with_reducible refine Ext.set ?_ (by first | (simp; done) | (simp; omega)) _ | with_reducible refine Ext.next ?_ (by with_reducible assumption))))) n0).mono ?_
  rintro e w4 ⟨A4, k4, rfl, ho4, hw4⟩
  obtain ⟨hc4, hf4⟩ := bcell_ hw4
  have hz4 : w3.heap.size < w4.heap.size := by have := hw4.size; simp at this; omega
  have HL4 : Hid (Lies10 w4 w3.heap.size m3) := hid (by unfold Lies10; refine ⟨?_, ?_, ?_, ?_, ?_, ?_, ?_, ?_, ?_, ?_⟩ <;> go_simp)
  have HX4 : Hid (Ext w3 w4) := hid (by repeat (first | with_reducible assumption | with_reducible exact Ext.refl _ | with_reducible apply Ext.drewN | with_reducible apply Ext.drew | with_reducible apply Ext.alloc | with_reducible refine Ext.set ?_ (by first | (simp; done) | (simp; omega)) _ | with_reducible refine Ext.next ?_ (by with_reducible assumption)))
  have HO4 := hid ho4
  clear hc4 hf4 ho4 hw4
  go_wp2_with fail
  refine (toIntS _ _ _ _ (h1.ext (HX3.out.next (HX4.out.next (by repeat (first | with_reducible assumption | with_reducible exact Ext.refl _ | with_reducible apply Ext.drewN | with_reducible apply Ext.drew | with_reducible apply Ext.alloc | with_reducible refine Ext.set ?_ (by first | (simp; done) | (simp; omega)) _ | with_reducible refine Ext.next ?_ (by with_reducible assumption)))))) n1).mono ?_
  rintro e w5 ⟨A5, k5, rfl, ho5, hw5⟩
  have HX5 : Hid (Ext w4 w5) := hid (by repeat (first | with_reducible assumption | with_reducible exact Ext.refl _ | with_reducible apply Ext.drewN | with_reducible apply Ext.drew | with_reducible apply Ext.alloc | with_reducible refine Ext.set ?_ (by first | (simp; done) | (simp; omega)) _ | with_reducible refine Ext.next ?_ (by with_reducible assumption)))
  have HO5 := hid ho5
  have HZ5 := hid (ho5.nilk)
  clear ho5 hw5
  go_wp2_with fail
  refine (implMchNew _ _ _ _ xs0 xs1 _ (HO4.out.ri.ext (HX5.out.next (by repeat (first | with_reducible assumption | with_reducible exact Ext.refl _ | with_reducible apply Ext.drewN | with_reducible apply Ext.drew | with_reducible apply Ext.alloc | with_reducible refine Ext.set ?_ (by first | (simp; done) | (simp; omega)) _ | with_reducible refine Ext.next ?_ (by with_reducible assumption))))) (HO5.out.ri.ext (by repeat (first | with_reducible assumption | with_reducible exact Ext.refl _ | with_reducible apply Ext.drewN | with_reducible apply Ext.drew | with_reducible apply Ext.alloc | with_reducible refine Ext.set ?_ (by first | (simp; done) | (simp; omega)) _ | with_reducible refine Ext.next ?_ (by with_reducible assumption)))) HZ5.out n0 n1).mono ?_
  rintro e w6 ⟨m6, rfl, hd6, ho6, hp6, hw6⟩
  have HD6 : Hid (m6.dat = dd) := hid (by rw [hd6, HDD.out])
  have hs6 : SmMc m6 := (HSM.out m6 HD6.out).1
  have HX6 : Hid (Ext w5 w6) := hid (by repeat (first | with_reducible assumption | with_reducible exact Ext.refl _ | with_reducible apply Ext.drewN | with_reducible apply Ext.drew | with_reducible apply Ext.alloc | with_reducible refine Ext.set ?_ (by first | (simp; done) | (simp; omega)) _ | with_reducible refine Ext.next ?_ (by with_reducible assumption)))
  have HO6 := hid ho6
  have HP6 := hid hp6
  clear ho6 hd6 hp6 hw6
  unfold Mc.val Mc.cells
  have zs3 : w3.heap.size < w6.heap.size := lt_ext HX6.out (lt_ext HX5.out hz4)
  obtain ⟨g0, g1, g2, g3, g4, g5, g6, g7, g8, g9⟩ := HL4.out.ext (HX5.out.next HX6.out)
  go_wp2_with fail
  refine (eqMach m6 m3 _ (HO6.out.rm.ext (by repeat (first | with_reducible assumption | with_reducible exact Ext.refl _ | with_reducible apply Ext.drewN | with_reducible apply Ext.drew | with_reducible apply Ext.alloc | with_reducible refine Ext.set ?_ (by first | (simp; done) | (simp; omega)) _ | with_reducible refine Ext.next ?_ (by with_reducible assumption)))) (HR3.out.ext (HX4.out.next (HX5.out.next (HX6.out.next (by repeat (first | with_reducible assumption | with_reducible exact Ext.refl _ | with_reducible apply Ext.drewN | with_reducible apply Ext.drew | with_reducible apply Ext.alloc | with_reducible refine Ext.set ?_ (by first | (simp; done) | (simp; omega)) _ | with_reducible refine Ext.next ?_ (by with_reducible assumption))))))) (HD6.out.trans HD3.out.symm) hs6.1 hs6.2.1 hs6.2.2.1 hs6.2.2.2).mono ?_
  rintro e w7 ⟨rfl, hw7⟩
  obtain ⟨hc7, hf7⟩ := bcell_ hw7
  have hz7 : w6.heap.size < w7.heap.size := by have := hw7.size; simp at this; omega
  have HM7 : Hid (Lies10 w7 w6.heap.size m6) := hid (by unfold Lies10; refine ⟨?_, ?_, ?_, ?_, ?_, ?_, ?_, ?_, ?_, ?_⟩ <;> go_simp)
  have HX7 : Hid (Ext w6 w7) := hid (by repeat (first | with_reducible assumption | with_reducible exact Ext.refl _ | with_reducible apply Ext.drewN | with_reducible apply Ext.drew | with_reducible apply Ext.alloc | with_reducible refine Ext.set ?_ (by first | (simp; done) | (simp; omega)) _ | with_reducible refine Ext.next ?_ (by with_reducible assumption)))
  have HW7 : Hid (Ext w w7) := hid (HX3.out.next (HX4.out.next (HX5.out.next (HX6.out.next HX7.out))))
  clear hc7 hf7 hw7
  clear g0 g1 g2 g3 g4 g5 g6 g7 g8 g9
  go_wp2_with fail
  refine (toIntS _ _ _ _ (h0.ext (HW7.out.next (by repeat (first | with_reducible assumption | with_reducible exact Ext.refl _ | with_reducible apply Ext.drewN | with_reducible apply Ext.drew | with_reducible apply Ext.alloc | with_reducible refine Ext.set ?_ (by first | (simp; done) | (simp; omega)) _ | with_reducible refine Ext.next ?_ (by with_reducible assumption))))) n0).mono ?_
  rintro e w8 ⟨A8, k8, rfl, ho8, hw8⟩
  go_wp2_with fail
  refine (eqIntS _ _ _ _ _ xs0 _ (HO4.out.ri.ext (HX5.out.next (HX6.out.next (HX7.out.next (by repeat (first | with_reducible assumption | with_reducible exact Ext.refl _ | with_reducible apply Ext.drewN | with_reducible apply Ext.drew | with_reducible apply Ext.alloc | with_reducible refine Ext.set ?_ (by first | (simp; done) | (simp; omega)) _ | with_reducible refine Ext.next ?_ (by with_reducible assumption))))))) (ho8.ri.ext (by repeat (first | with_reducible assumption | with_reducible exact Ext.refl _ | with_reducible apply Ext.drewN | with_reducible apply Ext.drew | with_reducible apply Ext.alloc | with_reducible refine Ext.set ?_ (by first | (simp; done) | (simp; omega)) _ | with_reducible refine Ext.next ?_ (by with_reducible assumption)))) rfl (by omega)).mono ?_
  rintro e w9 ⟨rfl, hw9⟩
  have HX9 : Hid (Ext w7 w9) := hid (by repeat (first | with_reducible assumption | with_reducible exact Ext.refl _ | with_reducible apply Ext.drewN | with_reducible apply Ext.drew | with_reducible apply Ext.alloc | with_reducible refine Ext.set ?_ (by first | (simp; done) | (simp; omega)) _ | with_reducible refine Ext.next ?_ (by with_reducible assumption)))
  clear ho8 hw8 hw9
  go_wp2_with fail
  refine (toIntS _ _ _ _ (h1.ext (HW7.out.next (HX9.out.next (by repeat (first | with_reducible assumption | with_reducible exact Ext.refl _ | with_reducible apply Ext.drewN | with_reducible apply Ext.drew | with_reducible apply Ext.alloc | with_reducible refine Ext.set ?_ (by first | (simp; done) | (simp; omega)) _ | with_reducible refine Ext.next ?_ (by with_reducible assumption)))))) n1).mono ?_
  rintro e w10 ⟨A10, k10, rfl, ho10, hw10⟩
  go_wp2_with fail
  refine (eqIntS _ _ _ _ _ xs1 _ (HO5.out.ri.ext (HX6.out.next (HX7.out.next (HX9.out.next (by repeat (first | with_reducible assumption | with_reducible exact Ext.refl _ | with_reducible apply Ext.drewN | with_reducible apply Ext.drew | with_reducible apply Ext.alloc | with_reducible refine Ext.set ?_ (by first | (simp; done) | (simp; omega)) _ | with_reducible refine Ext.next ?_ (by with_reducible assumption))))))) (ho10.ri.ext (by repeat (first | with_reducible assumption | with_reducible exact Ext.refl _ | with_reducible apply Ext.drewN | with_reducible apply Ext.drew | with_reducible apply Ext.alloc | with_reducible refine Ext.set ?_ (by first | (simp; done) | (simp; omega)) _ | with_reducible refine Ext.next ?_ (by with_reducible assumption)))) rfl (by omega)).mono ?_
  rintro e w11 ⟨rfl, hw11⟩
  have HX11 : Hid (Ext w7 w11) := hid (HX9.out.next (by repeat (first | with_reducible assumption | with_reducible exact Ext.refl _ | with_reducible apply Ext.drewN | with_reducible apply Ext.drew | with_reducible apply Ext.alloc | with_reducible refine Ext.set ?_ (by first | (simp; done) | (simp; omega)) _ | with_reducible refine Ext.next ?_ (by with_reducible assumption))))
  clear ho10 hw10 hw11 HX9
  have HF4 := hid fun b (hb : atB A4 b) => own_atB HO4.out hb
  have HF5 := hid fun b (hb : atB A5 b) => own_atB HO5.out hb
  have HF6 := hid fun b (hb : footMc m6 b) => HO6.out.foot_ hb
  have HX511 : Hid (Ext w5 w11) := hid (HX6.out.next (HX7.out.next HX11.out))
  have y3 := HX4.out.size
  have y4 := HX5.out.size
  have y5 := HX6.out.size
  have y7 := HX11.out.size
  go_wp2_with fail
  refine (markIntS _ _ _ _ _ _ (HO4.out.ext (HX5.out.next (HX511.out.next (by repeat (first | with_reducible assumption | with_reducible exact Ext.refl _ | with_reducible apply Ext.drewN | with_reducible apply Ext.drew | with_reducible apply Ext.alloc | with_reducible refine Ext.set ?_ (by first | (simp; done) | (simp; omega)) _ | with_reducible refine Ext.next ?_ (by with_reducible assumption)))))) (by omega) (by omega)).mono ?_
  rintro e w12 ⟨rfl, _, hu12⟩
  have HO5' := hid (own_upd' (HO5.out.ext (a := w11) HX511.out) hu12 (fun b hb hb' => by have := HF4.out b hb'; have := HF5.out b hb; first | omega | (simp at *; done) | (simp at *; omega)))
  have HU12 := hid hu12
  clear hu12
  go_wp2_with fail
  refine (markIntS _ _ _ _ _ _ HO5'.out (by omega) (by omega)).mono ?_
  rintro e w13 ⟨rfl, _, hu13⟩
  have HU13 : Hid (Upd (fun b => w3.heap.size < b ∧ b < w5.heap.size) w11 w13) := hid ((HU12.out.mono fun b _ hb => by have := HF4.out b hb; first | omega | (simp at this; done) | (simp at this; omega)).next (hu13.mono fun b _ hb => by have := HF5.out b hb; first | omega | (simp at this; done) | (simp at this; omega)))
  have HR13 : Hid (RMc 3 w13 m3) := hid (RMc.upd_lt HR3.out (HX4.out.next (HX5.out.next HX511.out)) HU13.out fun b hb hb' => by omega)
  have HO13 := hid ((HO6.out.ext (HX7.out.next HX11.out)).upd HU13.out fun b hb hb' => by have := HF6.out b hb; first | omega | (simp at this; done) | (simp at this; omega))
  have HL13 := hid (Lies10.upd (HL4.out.ext (HX5.out.next HX511.out)) HU13.out (by omega) (fun hb => by omega))
  have HM13 := hid (Lies10.upd (HM7.out.ext HX11.out) HU13.out (by omega) (fun hb => by omega))
  have HW13 : Hid (Ext w w13) := hid (((Upd.of_ext (HW7.out.next HX11.out)).next HU13.out).ext fun b hb => by have := HX3.out.size; omega)
  have hs13 := HU13.out.size
  have hbk : decide ((1 : Int) + (xs0.length : Int) + (xs1.length : Int) < 0) = false := by rw [decide_eq_false_iff_not]; omega
  have a3 : w3.heap.size < w13.heap.size := by omega
  have a6 : w6.heap.size < w13.heap.size := by omega
  clear hu13 HU12 HL4 HM7 HO5'
  obtain ⟨g0, g1, g2, g3, g4, g5, g6, g7, g8, g9⟩ := HL13.out
  obtain ⟨f0, f1, f2, f3, f4, f5, f6, f7, f8, f9⟩ := HM13.out
  go_wp2_with fail
  refine (eqMach m6 m3 _ (HO13.out.rm.ext (by repeat (first | with_reducible assumption | with_reducible exact Ext.refl _ | with_reducible apply Ext.drewN | with_reducible apply Ext.drew | with_reducible apply Ext.alloc | with_reducible refine Ext.set ?_ (by first | (simp; done) | (simp; omega)) _ | with_reducible refine Ext.next ?_ (by with_reducible assumption)))) (HR13.out.ext (by repeat (first | with_reducible assumption | with_reducible exact Ext.refl _ | with_reducible apply Ext.drewN | with_reducible apply Ext.drew | with_reducible apply Ext.alloc | with_reducible refine Ext.set ?_ (by first | (simp; done) | (simp; omega)) _ | with_reducible refine Ext.next ?_ (by with_reducible assumption)))) (HD6.out.trans HD3.out.symm) hs6.1 hs6.2.1 hs6.2.2.1 hs6.2.2.2).mono ?_
  rintro e w14 ⟨rfl, hw14⟩
  have HX14 : Hid (Ext w13 w14) := hid (by repeat (first | with_reducible assumption | with_reducible exact Ext.refl _ | with_reducible apply Ext.drewN | with_reducible apply Ext.drew | with_reducible apply Ext.alloc | with_reducible refine Ext.set ?_ (by first | (simp; done) | (simp; omega)) _ | with_reducible refine Ext.next ?_ (by with_reducible assumption)))
  clear hw14
  clear g0 g1 g2 g3 g4 g5 g6 g7 g8 g9
  clear f0 f1 f2 f3 f4 f5 f6 f7 f8 f9
  obtain ⟨f0, f1, f2, f3, f4, f5, f6, f7, f8, f9⟩ := HM13.out.ext HX14.out
  have ht6 := (HSM.out m6 HD6.out).2
  have b6 := lt_ext HX14.out a6
  go_wp2_with fail
  refine (markMach m6 _ _ _ (HO13.out.ext (HX14.out.next (by repeat (first | with_reducible assumption | with_reducible exact Ext.refl _ | with_reducible apply Ext.drewN | with_reducible apply Ext.drew | with_reducible apply Ext.alloc | with_reducible refine Ext.set ?_ (by first | (simp; done) | (simp; omega)) _ | with_reducible refine Ext.next ?_ (by with_reducible assumption))))) HP6.out (by omega) (by omega)).mono ?_
  rintro e w15 ⟨rfl, ho15, hu15⟩
  have HU15 : Hid (Upd (footMc m6) w14 w15) := hid ((Upd.of_ext (by repeat (first | with_reducible assumption | with_reducible exact Ext.refl _ | with_reducible apply Ext.drewN | with_reducible apply Ext.drew | with_reducible apply Ext.alloc | with_reducible refine Ext.set ?_ (by first | (simp; done) | (simp; omega)) _ | with_reducible refine Ext.next ?_ (by with_reducible assumption)))).next hu15)
  have HR15 := hid ho15.rm
  have HS15 := hid hu15.size
  have HL15 := hid (Lies10.upd (HL13.out.ext HX14.out) HU15.out (lt_ext HX14.out a3) (fun hb => by have := HF6.out _ hb; first | omega | (simp at this; done) | (simp at this; omega)))
  have HM15 := hid (Lies10.upd (HM13.out.ext HX14.out) HU15.out b6 (fun hb => by have := HF6.out _ hb; first | omega | (simp at this; done) | (simp at this; omega)))
  have HR15' : Hid (RMc 3 w15 m3) := hid (RMc.upd_lt HR3.out (w := w11) (HX4.out.next (HX5.out.next HX511.out)) ((HU13.out.mono (S' := fun b => w3.heap.size < b) fun b _ hb => hb.1).next ((Upd.of_ext HX14.out).next (HU15.out.mono fun b _ hb => by have := HF6.out b hb; first | omega | (simp at this; done) | (simp at this; omega)))) fun b hb hb' => by omega)
  have HW15 : Hid (Ext w w15) := hid (((Upd.of_ext (HW13.out.next HX14.out)).next HU15.out).ext fun b hb => by have := HF6.out b hb; have := HX3.out.size; first | omega | (simp at this; done) | (simp at this; omega))
  have c6 : w6.heap.size < w15.heap.size := by have := HU15.out.size; omega
  have c3 : w3.heap.size < w15.heap.size := by omega
  clear ho15 hu15
  clear f0 f1 f2 f3 f4 f5 f6 f7 f8 f9
  obtain ⟨f0, f1, f2, f3, f4, f5, f6, f7, f8, f9⟩ := HM15.out
  have hbg : decide ((1 : Int) + (totMc m6 : Int) < 0) = false := by rw [decide_eq_false_iff_not]; omega
  have hbn : ((1 : Int) + (totMc m6 : Int) != 1 + totMc m6) = false := by simp
  go_wp2_with fail
  refine (heldMach m6 _ _ (HR15.out.ext (by repeat (first | with_reducible assumption | with_reducible exact Ext.refl _ | with_reducible apply Ext.drewN | with_reducible apply Ext.drew | with_reducible apply Ext.alloc | with_reducible refine Ext.set ?_ (by first | (simp; done) | (simp; omega)) _ | with_reducible refine Ext.next ?_ (by with_reducible assumption)))) (by omega) (by omega)).mono ?_
  rintro e w16 ⟨rfl, hw16⟩
  have HX16 : Hid (Ext w15 w16) := hid (by repeat (first | with_reducible assumption | with_reducible exact Ext.refl _ | with_reducible apply Ext.drewN | with_reducible apply Ext.drew | with_reducible apply Ext.alloc | with_reducible refine Ext.set ?_ (by first | (simp; done) | (simp; omega)) _ | with_reducible refine Ext.next ?_ (by with_reducible assumption)))
  clear hw16
  clear f0 f1 f2 f3 f4 f5 f6 f7 f8 f9
  go_wp2_with fail
  refine (toIntS _ _ _ _ (h0.ext (HW15.out.next (HX16.out.next (by repeat (first | with_reducible assumption | with_reducible exact Ext.refl _ | with_reducible apply Ext.drewN | with_reducible apply Ext.drew | with_reducible apply Ext.alloc | with_reducible refine Ext.set ?_ (by first | (simp; done) | (simp; omega)) _ | with_reducible refine Ext.next ?_ (by with_reducible assumption)))))) n0).mono ?_
  rintro e w17 ⟨A17, k17, rfl, ho17, hw17⟩
  go_wp2_with fail
  refine (toIntS _ _ _ _ (h1.ext (HW15.out.next (HX16.out.next (by repeat (first | with_reducible assumption | with_reducible exact Ext.refl _ | with_reducible apply Ext.drewN | with_reducible apply Ext.drew | with_reducible apply Ext.alloc | with_reducible refine Ext.set ?_ (by first | (simp; done) | (simp; omega)) _ | with_reducible refine Ext.next ?_ (by with_reducible assumption)))))) n1).mono ?_
  rintro e w18 ⟨A18, k18, rfl, ho18, hw18⟩
  go_wp2_with fail
  refine (implMchNew _ _ _ _ xs0 xs1 _ (ho17.ri.ext (by repeat (first | with_reducible assumption | with_reducible exact Ext.refl _ | with_reducible apply Ext.drewN | with_reducible apply Ext.drew | with_reducible apply Ext.alloc | with_reducible refine Ext.set ?_ (by first | (simp; done) | (simp; omega)) _ | with_reducible refine Ext.next ?_ (by with_reducible assumption)))) (ho18.ri.ext (by repeat (first | with_reducible assumption | with_reducible exact Ext.refl _ | with_reducible apply Ext.drewN | with_reducible apply Ext.drew | with_reducible apply Ext.alloc | with_reducible refine Ext.set ?_ (by first | (simp; done) | (simp; omega)) _ | with_reducible refine Ext.next ?_ (by with_reducible assumption)))) ho18.nilk n0 n1).mono ?_
  rintro e w19 ⟨m19, rfl, hd19, ho19, hp19, hw19⟩
  have HD19 : Hid (m19.dat = dd) := hid (by rw [hd19, HDD.out])
  have hs19 : SmMc m19 := (HSM.out m19 HD19.out).1
  have HX19 : Hid (Ext w15 w19) := hid (HX16.out.next (by repeat (first | with_reducible assumption | with_reducible exact Ext.refl _ | with_reducible apply Ext.drewN | with_reducible apply Ext.drew | with_reducible apply Ext.alloc | with_reducible refine Ext.set ?_ (by first | (simp; done) | (simp; omega)) _ | with_reducible refine Ext.next ?_ (by with_reducible assumption))))
  have HO19 := hid ho19
  clear ho17 ho18 hw17 hw18 hw19 ho19 hd19 hp19
  unfold Mc.val Mc.cells
  obtain ⟨g0, g1, g2, g3, g4, g5, g6, g7, g8, g9⟩ := HL15.out.ext HX19.out
  have d3 := lt_ext HX19.out c3
  go_wp2_with fail
  refine (eqMach m19 m3 _ (HO19.out.rm.ext (by repeat (first | with_reducible assumption | with_reducible exact Ext.refl _ | with_reducible apply Ext.drewN | with_reducible apply Ext.drew | with_reducible apply Ext.alloc | with_reducible refine Ext.set ?_ (by first | (simp; done) | (simp; omega)) _ | with_reducible refine Ext.next ?_ (by with_reducible assumption)))) (HR15'.out.ext (HX19.out.next (by repeat (first | with_reducible assumption | with_reducible exact Ext.refl _ | with_reducible apply Ext.drewN | with_reducible apply Ext.drew | with_reducible apply Ext.alloc | with_reducible refine Ext.set ?_ (by first | (simp; done) | (simp; omega)) _ | with_reducible refine Ext.next ?_ (by with_reducible assumption))))) (HD19.out.trans HD3.out.symm) hs19.1 hs19.2.1 hs19.2.2.1 hs19.2.2.2).mono ?_
  rintro e w20 ⟨rfl, hw20⟩
  have HX20 : Hid (Ext w15 w20) := hid (HX19.out.next (by repeat (first | with_reducible assumption | with_reducible exact Ext.refl _ | with_reducible apply Ext.drewN | with_reducible apply Ext.drew | with_reducible apply Ext.alloc | with_reducible refine Ext.set ?_ (by first | (simp; done) | (simp; omega)) _ | with_reducible refine Ext.next ?_ (by with_reducible assumption))))
  clear hw20
  clear g0 g1 g2 g3 g4 g5 g6 g7 g8 g9
  obtain ⟨f0, f1, f2, f3, f4, f5, f6, f7, f8, f9⟩ := HM15.out.ext HX20.out
  have e6 := lt_ext HX20.out c6
  go_wp2_with fail
  refine (heldMach m6 _ _ (HR15.out.ext (HX20.out.next (by repeat (first | with_reducible assumption | with_reducible exact Ext.refl _ | with_reducible apply Ext.drewN | with_reducible apply Ext.drew | with_reducible apply Ext.alloc | with_reducible refine Ext.set ?_ (by first | (simp; done) | (simp; omega)) _ | with_reducible refine Ext.next ?_ (by with_reducible assumption))))) (by omega) (by omega)).mono ?_
  rintro e w21 ⟨rfl, hw21⟩
  go_wp2
  go_ret
  exact ⟨rfl, HW15.out.next (HX20.out.next (by repeat (first | with_reducible assumption | with_reducible exact Ext.refl _ | with_reducible apply Ext.drewN | with_reducible apply Ext.drew | with_reducible apply Ext.alloc | with_reducible refine Ext.set ?_ (by first | (simp; done) | (simp; omega)) _ | with_reducible refine Ext.next ?_ (by with_reducible assumption))))⟩

set_option maxRecDepth 100000 in
theorem lifted (os : Os) (started : os.Started) (H : Type) (enc : TypeId × Value → H) :
    ReturnsInHanded {} Try.checked os 4 .any (Rows.fnExactMchNewSpec.pre6 enc Try.prog Try.f4 Rows.fnExactMchNewRow.domain false) (Rows.fnExactMchNewSpec.post enc Try.prog Try.f4 false true false false) := by
  refine returnsInHanded_of_change (C := Try.checked) ownKnob_ started (by kernel_rfl) Try.func4
    (ChangeSpec.witness6 (enc := enc) (C := Try.checked) false ⟨#[], #[.slice none 0 0, .slice none 0 0], []⟩ 8 (by kernel_rfl) (by kernel_rfl) (by kernel_rfl) (by kernel_rfl)) ?_
  intro W base args ds gs before hval0 hW hcnd _
  have hval : ∀ (j : Nat) t v, Try.f4.params[j]? = some t → args[j]? = some v → Value.okWide Try.prog W .any base t v := hval0
  have hW' := hW
  obtain ⟨p, q, hA0, hV, rfl, hfz, hnd⟩ := hW
  have hA : DataW.TrodAll enc Try.prog W 0 (fun _ => true) true Try.f4.params.toList args.toList ds p := hA0
  rw [Try.params4] at hA hval
  obtain ⟨v0, vs0, d0, ds0, p0, q0, hargs, rfl, rfl, g0, r0⟩ := trodAll_cons hA
  obtain ⟨v1, vs1, d1, ds1, p1, q1, rfl, rfl, rfl, g1, r1⟩ := trodAll_cons r0
  obtain ⟨rfl, rfl, rfl⟩ := trodAll_nil r1
  obtain rfl : args = #[v0, v1] := by cases args; simp_all
  obtain ⟨rfl, rfl⟩ := trodVars_none hV
  have lt0 : ∀ x ∈ p0, x.block < W.heap.size := by obtain ⟨m, hm⟩ := g0; exact DataW.trod_lt m _ _ _ hm
  obtain ⟨A0, k0, xs0, e0, h0, s0⟩ := read_ints (hval 0 23 v0 rfl rfl) g0
  subst e0
  have lt1 : ∀ x ∈ p1, x.block < W.heap.size := by obtain ⟨m, hm⟩ := g1; exact DataW.trod_lt m _ _ _ hm
  obtain ⟨A1, k1, xs1, e1, h1, s1⟩ := read_ints (hval 1 23 v1 rfl rfl) g1
  subst e1
  clear hA0 hval0
  refine (walk A0 k0 xs0 A1 k1 xs1 W h0 s0 h1 s1).mono fun e W' ⟨he, bel⟩ => ?_
  subst he
  exact ⟨_, rfl, _, _, _, [], _, [], hW', trodAll_mk1 (shut_bool Try.underlying4 _), (trodAll_cons_mk (Below.trod laidOut_ (by kernel_rfl) (of_decide_eq_true (by kernel_rfl)) g0 bel.out lt0) (trodAll_cons_mk (Below.trod laidOut_ (by kernel_rfl) (of_decide_eq_true (by kernel_rfl)) g1 bel.out lt1) trodAll_mk0)), rfl, bel.out.frame _, fun h => by cases h⟩
theorem cf0 : (fun (P : Program) (f : FuncId) (fn : Func) (s : ChangeSpec) (c : OpenClaim) => (c.wf (OpenSpec.ofChange s) : Bool)) Try.prog 4 Try.f4 Rows.fnExactMchNewSpec Rows.fnExactMchNewRow = true := by kernel_rfl
theorem cf3 : (fun (P : Program) (f : FuncId) (fn : Func) (s : ChangeSpec) (c : OpenClaim) => (fn.params.all (P.readableRec ·) : Bool)) Try.prog 4 Try.f4 Rows.fnExactMchNewSpec Rows.fnExactMchNewRow = true := by kernel_rfl
theorem cf4 : (fun (P : Program) (f : FuncId) (fn : Func) (s : ChangeSpec) (c : OpenClaim) => (namedTie P c.named s.vars : Bool)) Try.prog 4 Try.f4 Rows.fnExactMchNewSpec Rows.fnExactMchNewRow = true := by kernel_rfl
theorem cf5 : (fun (P : Program) (f : FuncId) (fn : Func) (s : ChangeSpec) (c : OpenClaim) => ((c.stops == []) : Bool)) Try.prog 4 Try.f4 Rows.fnExactMchNewSpec Rows.fnExactMchNewRow = true := by kernel_rfl
theorem cf7 : (fun (P : Program) (f : FuncId) (fn : Func) (s : ChangeSpec) (c : OpenClaim) => ((c.knobs == []) : Bool)) Try.prog 4 Try.f4 Rows.fnExactMchNewSpec Rows.fnExactMchNewRow = true := by kernel_rfl
theorem cf9 : (fun (P : Program) (f : FuncId) (fn : Func) (s : ChangeSpec) (c : OpenClaim) => ((c.inPlace == P.inPlace f) : Bool)) Try.prog 4 Try.f4 Rows.fnExactMchNewSpec Rows.fnExactMchNewRow = true := by kernel_rfl
theorem cf10 : (fun (P : Program) (f : FuncId) (fn : Func) (s : ChangeSpec) (c : OpenClaim) => ((c.unfollowed == P.unfollowed f) : Bool)) Try.prog 4 Try.f4 Rows.fnExactMchNewSpec Rows.fnExactMchNewRow = true := by kernel_rfl
theorem cf11 : (fun (P : Program) (f : FuncId) (fn : Func) (s : ChangeSpec) (c : OpenClaim) => ((c.recurses == P.recurses f) : Bool)) Try.prog 4 Try.f4 Rows.fnExactMchNewSpec Rows.fnExactMchNewRow = true := by kernel_rfl
theorem cf12 : (fun (P : Program) (f : FuncId) (fn : Func) (s : ChangeSpec) (c : OpenClaim) => ((c.named == P.varsNamed f) : Bool)) Try.prog 4 Try.f4 Rows.fnExactMchNewSpec Rows.fnExactMchNewRow = true := by kernel_rfl
theorem cf13 : (fun (P : Program) (f : FuncId) (fn : Func) (s : ChangeSpec) (c : OpenClaim) => ((c.maps == (fn.params.toList ++ s.plain.varTypes P).any (P.mapsRec ·)) : Bool)) Try.prog 4 Try.f4 Rows.fnExactMchNewSpec Rows.fnExactMchNewRow = true := by kernel_rfl
theorem cf14 : (fun (P : Program) (f : FuncId) (fn : Func) (s : ChangeSpec) (c : OpenClaim) => ((c.ifaces == (fn.params.toList ++ s.plain.varTypes P).any (P.ifacesRec ·)) : Bool)) Try.prog 4 Try.f4 Rows.fnExactMchNewSpec Rows.fnExactMchNewRow = true := by kernel_rfl
theorem cf15 : (fun (P : Program) (f : FuncId) (fn : Func) (s : ChangeSpec) (c : OpenClaim) => ((c.mapsOut == P.mapsAmong fn.resultTypes.toList) : Bool)) Try.prog 4 Try.f4 Rows.fnExactMchNewSpec Rows.fnExactMchNewRow = true := by kernel_rfl
theorem cf16 : (fun (P : Program) (f : FuncId) (fn : Func) (s : ChangeSpec) (c : OpenClaim) => ((c.loops == (fn.params.toList ++ s.plain.varTypes P).any (P.loopsFrom ·)) : Bool)) Try.prog 4 Try.f4 Rows.fnExactMchNewSpec Rows.fnExactMchNewRow = true := by kernel_rfl
theorem cf17 : (fun (P : Program) (f : FuncId) (fn : Func) (s : ChangeSpec) (c : OpenClaim) => ((c.wideKeys == (fn.params.toList ++ s.plain.varTypes P ++ fn.resultTypes.toList).any (P.wideKeysFrom ·)) : Bool)) Try.prog 4 Try.f4 Rows.fnExactMchNewSpec Rows.fnExactMchNewRow = true := by kernel_rfl
theorem cf18 : (fun (P : Program) (f : FuncId) (fn : Func) (s : ChangeSpec) (c : OpenClaim) => (s.vars.all (P.varReadable ·) : Bool)) Try.prog 4 Try.f4 Rows.fnExactMchNewSpec Rows.fnExactMchNewRow = true := by kernel_rfl
theorem cf19 : (fun (P : Program) (f : FuncId) (fn : Func) (s : ChangeSpec) (c : OpenClaim) => (fn.resultTypes.all (fun t => P.readableRec t && decide (t < P.types.size)) : Bool)) Try.prog 4 Try.f4 Rows.fnExactMchNewSpec Rows.fnExactMchNewRow = true := by kernel_rfl
theorem cf20 : (fun (P : Program) (f : FuncId) (fn : Func) (s : ChangeSpec) (c : OpenClaim) => ((c.ifacesOut == fn.resultTypes.toList.any (P.ifacesRec ·)) : Bool)) Try.prog 4 Try.f4 Rows.fnExactMchNewSpec Rows.fnExactMchNewRow = true := by kernel_rfl
theorem cf21 : (fun (P : Program) (f : FuncId) (fn : Func) (s : ChangeSpec) (c : OpenClaim) => ((c.loopsOut == fn.resultTypes.toList.any (P.loopsFrom ·)) : Bool)) Try.prog 4 Try.f4 Rows.fnExactMchNewSpec Rows.fnExactMchNewRow = true := by kernel_rfl
theorem cf23 : (fun (P : Program) (f : FuncId) (fn : Func) (s : ChangeSpec) (c : OpenClaim) => (c.shortTexts.isNone : Bool)) Try.prog 4 Try.f4 Rows.fnExactMchNewSpec Rows.fnExactMchNewRow = true := by kernel_rfl
theorem cf28 : (fun (P : Program) (f : FuncId) (fn : Func) (s : ChangeSpec) (c : OpenClaim) => ((c.kinds == (if c.domain.isEmpty then [] else fn.params.toList.map fun t => match P.underlying t with | some (.int k) => some k | _ => none)) : Bool)) Try.prog 4 Try.f4 Rows.fnExactMchNewSpec Rows.fnExactMchNewRow = true := by kernel_rfl
theorem cf29 : (fun (P : Program) (f : FuncId) (fn : Func) (s : ChangeSpec) (c : OpenClaim) => ((c.pinned == c.pinnedBy) : Bool)) Try.prog 4 Try.f4 Rows.fnExactMchNewSpec Rows.fnExactMchNewRow = true := by kernel_rfl
theorem cf30 : (fun (P : Program) (f : FuncId) (fn : Func) (s : ChangeSpec) (c : OpenClaim) => ((c.veiled == (fn.params.toList ++ s.plain.varTypes P ++ fn.resultTypes.toList).any (P.veiledRec ·)) : Bool)) Try.prog 4 Try.f4 Rows.fnExactMchNewSpec Rows.fnExactMchNewRow = true := by kernel_rfl
theorem cf31 : (fun (P : Program) (f : FuncId) (fn : Func) (s : ChangeSpec) (c : OpenClaim) => (c.veiledFits P fn.params.toList (fn.params.toList ++ s.plain.varTypes P ++ fn.resultTypes.toList) : Bool)) Try.prog 4 Try.f4 Rows.fnExactMchNewSpec Rows.fnExactMchNewRow = true := by kernel_rfl

set_option maxRecDepth 100000 in
theorem closed : joinedFacts Try.prog 4 Try.f4 Rows.fnExactMchNewSpec Rows.fnExactMchNewRow = true := by
  unfold joinedFacts
  exact (band (band (band (band (band (band (band (band (band (band (band (band (band (band (band (band (band (band (band (band (band (band (band (band (band (band (band (band (band (band (band cf0 pf1) pf2) cf3) cf4) cf5) pf6) cf7) pf8) cf9) cf10) cf11) cf12) cf13) cf14) cf15) cf16) cf17) cf18) cf19) cf20) cf21) pf22) cf23) pf24) pf25) pf26) pf27) cf28) cf29) cf30) cf31)
theorem inst : Try.f4.isInstance Try.prog Rows.fnExactMchNewRow.origin Rows.fnExactMchNewRow.targs := of_decide_eq_true (by kernel_rfl)
theorem wrap_ : Try.f4.isWrapper Try.prog Rows.fnExactMchNewRow.wrapper Rows.fnExactMchNewRow.mainSum := by
  unfold Func.isWrapper
  rw [if_neg (by decide +kernel)]
  exact ⟨rfl, rfl⟩

theorem over : Rows.fnExactMchNewRow.holds Try.pinned (OpenSpec.ofChange Rows.fnExactMchNewSpec) :=
  OpenClaim.holds_of_wide 4 Try.f4 rfl rfl rfl rfl rfl rfl rfl ⟨rfl, rfl, rfl, rfl, rfl⟩ rfl rfl rfl rfl rfl (by as_aux_lemma => kernel_rfl) Try.func4 closed inst wrap_
    (fun os started H enc _ => lifted os started H enc)

theorem proved : Rows.FnExactMchNewSaid := over
#print axioms proved
end Go.Proofs.Ytcjeeggffeoilaa.fnExactMchNew
