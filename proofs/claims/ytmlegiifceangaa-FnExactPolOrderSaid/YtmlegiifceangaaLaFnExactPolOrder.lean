/- The law FnExactPolOrder: PolOrder returns what the reference's PolOrder returns, for every two sums, and leaves them as they are. Conditions: none. -/
import Derived.Test.YtmlegiifceangaaRows
import Derived.WalkKit
import Derived.ProofKit
import Derived.OpenShut
import Derived.ShutString
import Derived.ChangeOld
import Derived.Below
import Derived.Carry
import Derived.Test.YtmlegiifceangaaF
import Derived.Test.YtmlegiifceangaaK
import Derived.Test.YtmlegiifceangaaQ
import Derived.Test.YtmlegiifceangaaE
import Derived.Deep.RegionHeld3
namespace Go.Proofs.Ytmlegiifceangaa.fnExactPolOrder
open Go.ChangeShapes Go.WideShapes Go.ChangeAt Go.RowKit
set_option linter.unusedVariables false
set_option linter.unusedSimpArgs false

theorem walk (A0 : Option Addr) (k0 : Nat) (ms0 : List Mn) (A1 : Option Addr) (k1 : Nat) (ms1 : List Mn) (w : World) (h0 : AM w A0 ms0) (s0 : SzA ms0) (h1 : AM w A1 ms1) (s1 : SzA ms1) :
    Calls Try.prog 9 #[.agg #[.slice A0 ms0.length k0], .agg #[.slice A1 ms1.length k1]] w fun e w' => e = .returned (.bool true) ∧ Ext w w' := by
  by_cases hq : (1048576 : Int) < totM ms0
  · have e1 := hid (szF_lt hq)
    have hb : szF 1048576 (totM ms0) < 0 := by rw [szF_lt hq]; omega
    go_enter Try.func9, Try.ntmps9
    go_wp2_with fail
    refine (szPoly _ _ _ _ _ (h0.ext (by repeat (first | with_reducible assumption | with_reducible exact Ext.refl _ | with_reducible apply Ext.drewN | with_reducible apply Ext.drew | with_reducible apply Ext.alloc | with_reducible refine Ext.set ?_ (by first | (simp; done) | (simp; omega)) _ | with_reducible refine Ext.next ?_ (by with_reducible assumption)))) s0 (by omega) (by omega)).mono ?_
    rintro e w2 ⟨rfl, hw2⟩
    go_wp2
    go_ret
    exact ⟨rfl, (by repeat (first | with_reducible assumption | with_reducible exact Ext.refl _ | with_reducible apply Ext.drewN | with_reducible apply Ext.drew | with_reducible apply Ext.alloc | with_reducible refine Ext.set ?_ (by first | (simp; done) | (simp; omega)) _ | with_reducible refine Ext.next ?_ (by with_reducible assumption)))⟩
  have hb : 0 ≤ szF 1048576 (totM ms0) := by rw [szF_ge (by omega)]; omega
  have hb' : szF 1048576 (totM ms0) ≤ 1048576 := by rw [szF_ge (by omega)]; omega
  have ht0 : totM ms0 ≤ 1048576 := by omega
  obtain ⟨hn0, hx0⟩ := tot_one ht0
  by_cases hr : szF 1048576 (totM ms0) < totM ms1
  · have hc : szF (szF 1048576 (totM ms0)) (totM ms1) < 0 := by rw [szF_lt hr]; omega
    clear hq hr
    go_enter Try.func9, Try.ntmps9
    go_wp2_with fail
    refine (szPoly _ _ _ _ _ (h0.ext (by repeat (first | with_reducible assumption | with_reducible exact Ext.refl _ | with_reducible apply Ext.drewN | with_reducible apply Ext.drew | with_reducible apply Ext.alloc | with_reducible refine Ext.set ?_ (by first | (simp; done) | (simp; omega)) _ | with_reducible refine Ext.next ?_ (by with_reducible assumption)))) s0 (by omega) (by omega)).mono ?_
    rintro e w2 ⟨rfl, hw2⟩
    have c2 : w2.cell? ⟨w.heap.size + 1, 0, none⟩ = some (.slice A1 ms1.length k1) := keep hw2 (by go_simp)
    go_wp2_with fail
    refine (szPoly _ _ _ _ _ (h1.ext (by repeat (first | with_reducible assumption | with_reducible exact Ext.refl _ | with_reducible apply Ext.drewN | with_reducible apply Ext.drew | with_reducible apply Ext.alloc | with_reducible refine Ext.set ?_ (by first | (simp; done) | (simp; omega)) _ | with_reducible refine Ext.next ?_ (by with_reducible assumption)))) s1 hb hb').mono ?_
    rintro e w3 ⟨rfl, hw3⟩
    go_wp2
    go_ret
    exact ⟨rfl, (by repeat (first | with_reducible assumption | with_reducible exact Ext.refl _ | with_reducible apply Ext.drewN | with_reducible apply Ext.drew | with_reducible apply Ext.alloc | with_reducible refine Ext.set ?_ (by first | (simp; done) | (simp; omega)) _ | with_reducible refine Ext.next ?_ (by with_reducible assumption)))⟩
  have hc : 0 ≤ szF (szF 1048576 (totM ms0)) (totM ms1) := by rw [szF_ge (by omega)]; omega
  have ht1 : totM ms1 ≤ 1048576 := by omega
  obtain ⟨hn1, hx1⟩ := tot_one ht1
  clear hq hr
  go_enter Try.func9, Try.ntmps9
  go_wp2_with fail
  refine (szPoly _ _ _ _ _ (h0.ext (by repeat (first | with_reducible assumption | with_reducible exact Ext.refl _ | with_reducible apply Ext.drewN | with_reducible apply Ext.drew | with_reducible apply Ext.alloc | with_reducible refine Ext.set ?_ (by first | (simp; done) | (simp; omega)) _ | with_reducible refine Ext.next ?_ (by with_reducible assumption)))) s0 (by omega) (by omega)).mono ?_
  rintro e w2 ⟨rfl, hw2⟩
  have c0 : w2.cell? ⟨w.heap.size, 0, none⟩ = some (.slice A0 ms0.length k0) := keep hw2 (by go_simp)
  have c1 : w2.cell? ⟨w.heap.size + 1, 0, none⟩ = some (.slice A1 ms1.length k1) := keep hw2 (by go_simp)
  go_wp2_with fail
  refine (szPoly _ _ _ _ _ (h1.ext (by repeat (first | with_reducible assumption | with_reducible exact Ext.refl _ | with_reducible apply Ext.drewN | with_reducible apply Ext.drew | with_reducible apply Ext.alloc | with_reducible refine Ext.set ?_ (by first | (simp; done) | (simp; omega)) _ | with_reducible refine Ext.next ?_ (by with_reducible assumption)))) s1 hb hb').mono ?_
  rintro e w3 ⟨rfl, hw3⟩
  have d0 := keep hw3 c0
  have d1 := keep hw3 c1
  clear c0 c1 hb hb'
  go_wp2
  go_region_held3 (fun w' => w'.cell? ⟨w.heap.size, 0, none⟩ = some (.slice A0 ms0.length k0) ∧ w'.cell? ⟨w.heap.size + 1, 0, none⟩ = some (.slice A1 ms1.length k1)) (refine ⟨?_, ?_⟩ <;> ((repeat (first | with_reducible assumption | with_reducible refine keep (Ext.alloc (Ext.refl _) _) ?_ | with_reducible refine keep (Ext.drew (Ext.refl _)) ?_ | with_reducible refine keep (Ext.drewN (Ext.refl _) _) ?_ | with_reducible refine keep (by with_reducible assumption) ?_)); done)) (first | (go_at_call_of 51 (Value.agg #[Value.slice A0 ms0.length k0]); refine (toPoly _ _ _ _ (h0.ext (by repeat (first | with_reducible assumption | with_reducible exact Ext.refl _ | with_reducible apply Ext.drewN | with_reducible apply Ext.drew | with_reducible apply Ext.alloc | with_reducible refine Ext.set ?_ (by first | (simp; done) | (simp; omega)) _ | with_reducible refine Ext.next ?_ (by with_reducible assumption)))) hn0 hx0).mono ?_; rintro e w4 ⟨A4, k4, ms4, rfl, hd4, ho4, hw4⟩; have HD4 := hid hd4; clear hd4) | (go_at_call_of 51 (Value.agg #[Value.slice A1 ms1.length k1]); refine (toPoly _ _ _ _ (h1.ext (by repeat (first | with_reducible assumption | with_reducible exact Ext.refl _ | with_reducible apply Ext.drewN | with_reducible apply Ext.drew | with_reducible apply Ext.alloc | with_reducible refine Ext.set ?_ (by first | (simp; done) | (simp; omega)) _ | with_reducible refine Ext.next ?_ (by with_reducible assumption)))) hn1 hx1).mono ?_; rintro e w5 ⟨A5, k5, ms5, rfl, hd5, ho5, hw5⟩; have HD5 := hid hd5; clear hd5) | (go_at_call 53; refine (specPolOrder _ _ _ _ _ _ _ (ho4.rm.ext (by repeat (first | with_reducible assumption | with_reducible exact Ext.refl _ | with_reducible apply Ext.drewN | with_reducible apply Ext.drew | with_reducible apply Ext.alloc | with_reducible refine Ext.set ?_ (by first | (simp; done) | (simp; omega)) _ | with_reducible refine Ext.next ?_ (by with_reducible assumption)))) (ho5.rm.ext (by repeat (first | with_reducible assumption | with_reducible exact Ext.refl _ | with_reducible apply Ext.drewN | with_reducible apply Ext.drew | with_reducible apply Ext.alloc | with_reducible refine Ext.set ?_ (by first | (simp; done) | (simp; omega)) _ | with_reducible refine Ext.next ?_ (by with_reducible assumption)))) (SzM.of_dat HD4.out ht0) (SzM.of_dat HD5.out ht1)).mono ?_; rintro e w6 ⟨rfl, hw6⟩))
  have c0 : w6.cell? ⟨w.heap.size, 0, none⟩ = some (.slice A0 ms0.length k0) := by (repeat (first | with_reducible assumption | with_reducible refine keep (Ext.alloc (Ext.refl _) _) ?_ | with_reducible refine keep (Ext.drew (Ext.refl _)) ?_ | with_reducible refine keep (Ext.drewN (Ext.refl _) _) ?_ | with_reducible refine keep (by with_reducible assumption) ?_))
  have c1 : w6.cell? ⟨w.heap.size + 1, 0, none⟩ = some (.slice A1 ms1.length k1) := by (repeat (first | with_reducible assumption | with_reducible refine keep (Ext.alloc (Ext.refl _) _) ?_ | with_reducible refine keep (Ext.drew (Ext.refl _)) ?_ | with_reducible refine keep (Ext.drewN (Ext.refl _) _) ?_ | with_reducible refine keep (by with_reducible assumption) ?_))
  clear d0 d1
  go_wp2_with fail
  refine (toPoly _ _ _ _ (h0.ext (by repeat (first | with_reducible assumption | with_reducible exact Ext.refl _ | with_reducible apply Ext.drewN | with_reducible apply Ext.drew | with_reducible apply Ext.alloc | with_reducible refine Ext.set ?_ (by first | (simp; done) | (simp; omega)) _ | with_reducible refine Ext.next ?_ (by with_reducible assumption)))) hn0 hx0).mono ?_
  rintro e w7 ⟨A7, k7, ms7, rfl, hd7, ho7, hw7⟩
  have HD7 := hid hd7
  have hs7 := SzM.of_dat hd7 ht0
  clear hd7
  have g1 : w7.cell? ⟨w.heap.size + 1, 0, none⟩ = some (.slice A1 ms1.length k1) := by (repeat (first | with_reducible assumption | with_reducible refine keep (Ext.alloc (Ext.refl _) _) ?_ | with_reducible refine keep (Ext.drew (Ext.refl _)) ?_ | with_reducible refine keep (Ext.drewN (Ext.refl _) _) ?_ | with_reducible refine keep (by with_reducible assumption) ?_))
  have l7 := World.block_lt_of_cell? _ _ g1
  simp only at l7
  go_wp2_with fail
  refine (toPoly _ _ _ _ (h1.ext (by repeat (first | with_reducible assumption | with_reducible exact Ext.refl _ | with_reducible apply Ext.drewN | with_reducible apply Ext.drew | with_reducible apply Ext.alloc | with_reducible refine Ext.set ?_ (by first | (simp; done) | (simp; omega)) _ | with_reducible refine Ext.next ?_ (by with_reducible assumption)))) hn1 hx1).mono ?_
  rintro e w8 ⟨A8, k8, ms8, rfl, hd8, ho8, hw8⟩
  have HD8 := hid hd8
  have hs8 := SzM.of_dat hd8 ht1
  clear hd8
  have b7 : w8.cell? ⟨w7.heap.size, 0, none⟩ = some (.slice A7 ms7.length k7) := keep hw8 (by go_simp)
  have l8 := World.block_lt_of_cell? _ _ b7
  simp only at l8
  go_wp2_with fail
  have e2 : Hid (polOrd (ms7.map Mn.dat) (ms8.map Mn.dat) = polOrd (ms4.map Mn.dat) (ms5.map Mn.dat)) := by rw [HD4.out, HD5.out, HD7.out, HD8.out]; exact rfl
  refine (implPolOrder _ _ _ _ _ _ _ (ho7.rm.ext (by repeat (first | with_reducible assumption | with_reducible exact Ext.refl _ | with_reducible apply Ext.drewN | with_reducible apply Ext.drew | with_reducible apply Ext.alloc | with_reducible refine Ext.set ?_ (by first | (simp; done) | (simp; omega)) _ | with_reducible refine Ext.next ?_ (by with_reducible assumption)))) (ho8.rm.ext (by repeat (first | with_reducible assumption | with_reducible exact Ext.refl _ | with_reducible apply Ext.drewN | with_reducible apply Ext.drew | with_reducible apply Ext.alloc | with_reducible refine Ext.set ?_ (by first | (simp; done) | (simp; omega)) _ | with_reducible refine Ext.next ?_ (by with_reducible assumption)))) hs7 hs8).mono ?_
  rintro e w9 ⟨rfl, hw9⟩
  rw [e2.out]
  have b8 : w9.cell? ⟨w8.heap.size, 0, none⟩ = some (.slice A8 ms8.length k8) := keep hw9 (by go_simp)
  have f7 : w9.cell? ⟨w7.heap.size, 0, none⟩ = some (.slice A7 ms7.length k7) := by (repeat (first | with_reducible assumption | with_reducible refine keep (Ext.alloc (Ext.refl _) _) ?_ | with_reducible refine keep (Ext.drew (Ext.refl _)) ?_ | with_reducible refine keep (Ext.drewN (Ext.refl _) _) ?_ | with_reducible refine keep (by with_reducible assumption) ?_))
  have f0 : w9.cell? ⟨w.heap.size, 0, none⟩ = some (.slice A0 ms0.length k0) := by (repeat (first | with_reducible assumption | with_reducible refine keep (Ext.alloc (Ext.refl _) _) ?_ | with_reducible refine keep (Ext.drew (Ext.refl _)) ?_ | with_reducible refine keep (Ext.drewN (Ext.refl _) _) ?_ | with_reducible refine keep (by with_reducible assumption) ?_))
  have f1 : w9.cell? ⟨w.heap.size + 1, 0, none⟩ = some (.slice A1 ms1.length k1) := by (repeat (first | with_reducible assumption | with_reducible refine keep (Ext.alloc (Ext.refl _) _) ?_ | with_reducible refine keep (Ext.drew (Ext.refl _)) ?_ | with_reducible refine keep (Ext.drewN (Ext.refl _) _) ?_ | with_reducible refine keep (by with_reducible assumption) ?_))
  clear c0 c1 g1 b7
  go_wp2
  go_region_held3 (fun w' => w'.cell? ⟨w.heap.size, 0, none⟩ = some (.slice A0 ms0.length k0) ∧ w'.cell? ⟨w.heap.size + 1, 0, none⟩ = some (.slice A1 ms1.length k1) ∧ w'.cell? ⟨w7.heap.size, 0, none⟩ = some (.slice A7 ms7.length k7) ∧ w'.cell? ⟨w8.heap.size, 0, none⟩ = some (.slice A8 ms8.length k8)) (refine ⟨?_, ?_, ?_, ?_⟩ <;> ((repeat (first | with_reducible assumption | with_reducible refine keep (Ext.alloc (Ext.refl _) _) ?_ | with_reducible refine keep (Ext.drew (Ext.refl _)) ?_ | with_reducible refine keep (Ext.drewN (Ext.refl _) _) ?_ | with_reducible refine keep (by with_reducible assumption) ?_)); done)) (first | (go_at_call_of 51 (Value.agg #[Value.slice A0 ms0.length k0]); refine (toPoly _ _ _ _ (h0.ext (by repeat (first | with_reducible assumption | with_reducible exact Ext.refl _ | with_reducible apply Ext.drewN | with_reducible apply Ext.drew | with_reducible apply Ext.alloc | with_reducible refine Ext.set ?_ (by first | (simp; done) | (simp; omega)) _ | with_reducible refine Ext.next ?_ (by with_reducible assumption)))) hn0 hx0).mono ?_; rintro e w10 ⟨A10, k10, ms10, rfl, hd10, ho10, hw10⟩; have HD10 := hid hd10; clear hd10) | (go_at_call_of 42 (Value.agg #[Value.slice A7 ms7.length k7]); refine (eqPoly _ _ _ _ _ _ ms7 ms10 _ (ho7.rm.ext (by repeat (first | with_reducible assumption | with_reducible exact Ext.refl _ | with_reducible apply Ext.drewN | with_reducible apply Ext.drew | with_reducible apply Ext.alloc | with_reducible refine Ext.set ?_ (by first | (simp; done) | (simp; omega)) _ | with_reducible refine Ext.next ?_ (by with_reducible assumption)))) (ho10.rm.ext (by repeat (first | with_reducible assumption | with_reducible exact Ext.refl _ | with_reducible apply Ext.drewN | with_reducible apply Ext.drew | with_reducible apply Ext.alloc | with_reducible refine Ext.set ?_ (by first | (simp; done) | (simp; omega)) _ | with_reducible refine Ext.next ?_ (by with_reducible assumption)))) (HD7.out.trans HD10.out.symm) rfl rfl hs7).mono ?_; rintro e w11 ⟨rfl, hw11⟩))
  have y7 : w11.cell? ⟨w7.heap.size, 0, none⟩ = some (.slice A7 ms7.length k7) := by (repeat (first | with_reducible assumption | with_reducible refine keep (Ext.alloc (Ext.refl _) _) ?_ | with_reducible refine keep (Ext.drew (Ext.refl _)) ?_ | with_reducible refine keep (Ext.drewN (Ext.refl _) _) ?_ | with_reducible refine keep (by with_reducible assumption) ?_))
  have y8 : w11.cell? ⟨w8.heap.size, 0, none⟩ = some (.slice A8 ms8.length k8) := by (repeat (first | with_reducible assumption | with_reducible refine keep (Ext.alloc (Ext.refl _) _) ?_ | with_reducible refine keep (Ext.drew (Ext.refl _)) ?_ | with_reducible refine keep (Ext.drewN (Ext.refl _) _) ?_ | with_reducible refine keep (by with_reducible assumption) ?_))
  have y0 : w11.cell? ⟨w.heap.size, 0, none⟩ = some (.slice A0 ms0.length k0) := by (repeat (first | with_reducible assumption | with_reducible refine keep (Ext.alloc (Ext.refl _) _) ?_ | with_reducible refine keep (Ext.drew (Ext.refl _)) ?_ | with_reducible refine keep (Ext.drewN (Ext.refl _) _) ?_ | with_reducible refine keep (by with_reducible assumption) ?_))
  have y1 : w11.cell? ⟨w.heap.size + 1, 0, none⟩ = some (.slice A1 ms1.length k1) := by (repeat (first | with_reducible assumption | with_reducible refine keep (Ext.alloc (Ext.refl _) _) ?_ | with_reducible refine keep (Ext.drew (Ext.refl _)) ?_ | with_reducible refine keep (Ext.drewN (Ext.refl _) _) ?_ | with_reducible refine keep (by with_reducible assumption) ?_))
  clear f0 f1 f7 b8
  go_wp2
  go_region_held3 (fun w' => w'.cell? ⟨w.heap.size, 0, none⟩ = some (.slice A0 ms0.length k0) ∧ w'.cell? ⟨w.heap.size + 1, 0, none⟩ = some (.slice A1 ms1.length k1) ∧ w'.cell? ⟨w7.heap.size, 0, none⟩ = some (.slice A7 ms7.length k7) ∧ w'.cell? ⟨w8.heap.size, 0, none⟩ = some (.slice A8 ms8.length k8)) (refine ⟨?_, ?_, ?_, ?_⟩ <;> ((repeat (first | with_reducible assumption | with_reducible refine keep (Ext.alloc (Ext.refl _) _) ?_ | with_reducible refine keep (Ext.drew (Ext.refl _)) ?_ | with_reducible refine keep (Ext.drewN (Ext.refl _) _) ?_ | with_reducible refine keep (by with_reducible assumption) ?_)); done)) (first | (go_at_call_of 51 (Value.agg #[Value.slice A1 ms1.length k1]); refine (toPoly _ _ _ _ (h1.ext (by repeat (first | with_reducible assumption | with_reducible exact Ext.refl _ | with_reducible apply Ext.drewN | with_reducible apply Ext.drew | with_reducible apply Ext.alloc | with_reducible refine Ext.set ?_ (by first | (simp; done) | (simp; omega)) _ | with_reducible refine Ext.next ?_ (by with_reducible assumption)))) hn1 hx1).mono ?_; rintro e w12 ⟨A12, k12, ms12, rfl, hd12, ho12, hw12⟩; have HD12 := hid hd12; clear hd12) | (go_at_call_of 42 (Value.agg #[Value.slice A8 ms8.length k8]); refine (eqPoly _ _ _ _ _ _ ms8 ms12 _ (ho8.rm.ext (by repeat (first | with_reducible assumption | with_reducible exact Ext.refl _ | with_reducible apply Ext.drewN | with_reducible apply Ext.drew | with_reducible apply Ext.alloc | with_reducible refine Ext.set ?_ (by first | (simp; done) | (simp; omega)) _ | with_reducible refine Ext.next ?_ (by with_reducible assumption)))) (ho12.rm.ext (by repeat (first | with_reducible assumption | with_reducible exact Ext.refl _ | with_reducible apply Ext.drewN | with_reducible apply Ext.drew | with_reducible apply Ext.alloc | with_reducible refine Ext.set ?_ (by first | (simp; done) | (simp; omega)) _ | with_reducible refine Ext.next ?_ (by with_reducible assumption)))) (HD8.out.trans HD12.out.symm) rfl rfl hs8).mono ?_; rintro e w13 ⟨rfl, hw13⟩))
  go_wp2
  go_ret
  exact ⟨rfl, (by repeat (first | with_reducible assumption | with_reducible exact Ext.refl _ | with_reducible apply Ext.drewN | with_reducible apply Ext.drew | with_reducible apply Ext.alloc | with_reducible refine Ext.set ?_ (by first | (simp; done) | (simp; omega)) _ | with_reducible refine Ext.next ?_ (by with_reducible assumption)))⟩

set_option maxRecDepth 100000 in
theorem lifted (os : Os) (started : os.Started) (H : Type) (enc : TypeId × Value → H) :
    ReturnsInHanded {} Try.checked os 9 .any (Rows.fnExactPolOrderSpec.pre6 enc Try.prog Try.f9 Rows.fnExactPolOrderRow.domain false) (Rows.fnExactPolOrderSpec.post enc Try.prog Try.f9 false true false false) := by
  refine returnsInHanded_of_change (C := Try.checked) ownKnob_ started (by kernel_rfl) Try.func9
    (ChangeSpec.witness6 (enc := enc) (C := Try.checked) false ⟨#[], #[.agg #[.slice none 0 0], .agg #[.slice none 0 0]], []⟩ 8 (by kernel_rfl) (by kernel_rfl) (by kernel_rfl) (by kernel_rfl)) ?_
  intro W base args ds gs before hval0 hW hcnd _
  have hval : ∀ (j : Nat) t v, Try.f9.params[j]? = some t → args[j]? = some v → Value.okWide Try.prog W .any base t v := hval0
  have hW' := hW
  obtain ⟨p, q, hA0, hV, rfl, hfz, hnd⟩ := hW
  have hA : DataW.TrodAll enc Try.prog W 0 (fun _ => true) true Try.f9.params.toList args.toList ds p := hA0
  rw [Try.params9] at hA hval
  obtain ⟨v0, vs0, d0, ds0, p0, q0, hargs, rfl, rfl, g0, r0⟩ := trodAll_cons hA
  obtain ⟨v1, vs1, d1, ds1, p1, q1, rfl, rfl, rfl, g1, r1⟩ := trodAll_cons r0
  obtain ⟨rfl, rfl, rfl⟩ := trodAll_nil r1
  obtain rfl : args = #[v0, v1] := by cases args; simp_all
  obtain ⟨rfl, rfl⟩ := trodVars_none hV
  have lt0 : ∀ x ∈ p0, x.block < W.heap.size := by obtain ⟨m, hm⟩ := g0; exact DataW.trod_lt m _ _ _ hm
  obtain ⟨A0, k0, ms0, e0, h0, s0⟩ := read_poly (hval 0 48 v0 rfl rfl) g0
  subst e0
  have lt1 : ∀ x ∈ p1, x.block < W.heap.size := by obtain ⟨m, hm⟩ := g1; exact DataW.trod_lt m _ _ _ hm
  obtain ⟨A1, k1, ms1, e1, h1, s1⟩ := read_poly (hval 1 48 v1 rfl rfl) g1
  subst e1
  clear hA0 hval0
  refine (walk A0 k0 ms0 A1 k1 ms1 W h0 s0 h1 s1).mono fun e W' ⟨he, bel⟩ => ?_
  subst he
  exact ⟨_, rfl, _, _, _, [], _, [], hW', trodAll_mk1 (shut_bool Try.underlying4 _), (trodAll_cons_mk (Below.trod laidOut_ (by kernel_rfl) (of_decide_eq_true (by kernel_rfl)) g0 bel.out lt0) (trodAll_cons_mk (Below.trod laidOut_ (by kernel_rfl) (of_decide_eq_true (by kernel_rfl)) g1 bel.out lt1) trodAll_mk0)), rfl, bel.out.frame _, fun h => by cases h⟩
theorem cf0 : (fun (P : Program) (f : FuncId) (fn : Func) (s : ChangeSpec) (c : OpenClaim) => (c.wf (OpenSpec.ofChange s) : Bool)) Try.prog 9 Try.f9 Rows.fnExactPolOrderSpec Rows.fnExactPolOrderRow = true := by kernel_rfl
theorem cf3 : (fun (P : Program) (f : FuncId) (fn : Func) (s : ChangeSpec) (c : OpenClaim) => (fn.params.all (P.readableRec ·) : Bool)) Try.prog 9 Try.f9 Rows.fnExactPolOrderSpec Rows.fnExactPolOrderRow = true := by kernel_rfl
theorem cf4 : (fun (P : Program) (f : FuncId) (fn : Func) (s : ChangeSpec) (c : OpenClaim) => (namedTie P c.named s.vars : Bool)) Try.prog 9 Try.f9 Rows.fnExactPolOrderSpec Rows.fnExactPolOrderRow = true := by kernel_rfl
theorem cf5 : (fun (P : Program) (f : FuncId) (fn : Func) (s : ChangeSpec) (c : OpenClaim) => ((c.stops == []) : Bool)) Try.prog 9 Try.f9 Rows.fnExactPolOrderSpec Rows.fnExactPolOrderRow = true := by kernel_rfl
theorem cf7 : (fun (P : Program) (f : FuncId) (fn : Func) (s : ChangeSpec) (c : OpenClaim) => ((c.knobs == []) : Bool)) Try.prog 9 Try.f9 Rows.fnExactPolOrderSpec Rows.fnExactPolOrderRow = true := by kernel_rfl
theorem cf9 : (fun (P : Program) (f : FuncId) (fn : Func) (s : ChangeSpec) (c : OpenClaim) => ((c.inPlace == P.inPlace f) : Bool)) Try.prog 9 Try.f9 Rows.fnExactPolOrderSpec Rows.fnExactPolOrderRow = true := by kernel_rfl
theorem cf10 : (fun (P : Program) (f : FuncId) (fn : Func) (s : ChangeSpec) (c : OpenClaim) => ((c.unfollowed == P.unfollowed f) : Bool)) Try.prog 9 Try.f9 Rows.fnExactPolOrderSpec Rows.fnExactPolOrderRow = true := by kernel_rfl
theorem cf11 : (fun (P : Program) (f : FuncId) (fn : Func) (s : ChangeSpec) (c : OpenClaim) => ((c.recurses == P.recurses f) : Bool)) Try.prog 9 Try.f9 Rows.fnExactPolOrderSpec Rows.fnExactPolOrderRow = true := by kernel_rfl
theorem cf12 : (fun (P : Program) (f : FuncId) (fn : Func) (s : ChangeSpec) (c : OpenClaim) => ((c.named == P.varsNamed f) : Bool)) Try.prog 9 Try.f9 Rows.fnExactPolOrderSpec Rows.fnExactPolOrderRow = true := by kernel_rfl
theorem cf13 : (fun (P : Program) (f : FuncId) (fn : Func) (s : ChangeSpec) (c : OpenClaim) => ((c.maps == (fn.params.toList ++ s.plain.varTypes P).any (P.mapsRec ·)) : Bool)) Try.prog 9 Try.f9 Rows.fnExactPolOrderSpec Rows.fnExactPolOrderRow = true := by kernel_rfl
theorem cf14 : (fun (P : Program) (f : FuncId) (fn : Func) (s : ChangeSpec) (c : OpenClaim) => ((c.ifaces == (fn.params.toList ++ s.plain.varTypes P).any (P.ifacesRec ·)) : Bool)) Try.prog 9 Try.f9 Rows.fnExactPolOrderSpec Rows.fnExactPolOrderRow = true := by kernel_rfl
theorem cf15 : (fun (P : Program) (f : FuncId) (fn : Func) (s : ChangeSpec) (c : OpenClaim) => ((c.mapsOut == P.mapsAmong fn.resultTypes.toList) : Bool)) Try.prog 9 Try.f9 Rows.fnExactPolOrderSpec Rows.fnExactPolOrderRow = true := by kernel_rfl
theorem cf16 : (fun (P : Program) (f : FuncId) (fn : Func) (s : ChangeSpec) (c : OpenClaim) => ((c.loops == (fn.params.toList ++ s.plain.varTypes P).any (P.loopsFrom ·)) : Bool)) Try.prog 9 Try.f9 Rows.fnExactPolOrderSpec Rows.fnExactPolOrderRow = true := by kernel_rfl
theorem cf17 : (fun (P : Program) (f : FuncId) (fn : Func) (s : ChangeSpec) (c : OpenClaim) => ((c.wideKeys == (fn.params.toList ++ s.plain.varTypes P ++ fn.resultTypes.toList).any (P.wideKeysFrom ·)) : Bool)) Try.prog 9 Try.f9 Rows.fnExactPolOrderSpec Rows.fnExactPolOrderRow = true := by kernel_rfl
theorem cf18 : (fun (P : Program) (f : FuncId) (fn : Func) (s : ChangeSpec) (c : OpenClaim) => (s.vars.all (P.varReadable ·) : Bool)) Try.prog 9 Try.f9 Rows.fnExactPolOrderSpec Rows.fnExactPolOrderRow = true := by kernel_rfl
theorem cf19 : (fun (P : Program) (f : FuncId) (fn : Func) (s : ChangeSpec) (c : OpenClaim) => (fn.resultTypes.all (fun t => P.readableRec t && decide (t < P.types.size)) : Bool)) Try.prog 9 Try.f9 Rows.fnExactPolOrderSpec Rows.fnExactPolOrderRow = true := by kernel_rfl
theorem cf20 : (fun (P : Program) (f : FuncId) (fn : Func) (s : ChangeSpec) (c : OpenClaim) => ((c.ifacesOut == fn.resultTypes.toList.any (P.ifacesRec ·)) : Bool)) Try.prog 9 Try.f9 Rows.fnExactPolOrderSpec Rows.fnExactPolOrderRow = true := by kernel_rfl
theorem cf21 : (fun (P : Program) (f : FuncId) (fn : Func) (s : ChangeSpec) (c : OpenClaim) => ((c.loopsOut == fn.resultTypes.toList.any (P.loopsFrom ·)) : Bool)) Try.prog 9 Try.f9 Rows.fnExactPolOrderSpec Rows.fnExactPolOrderRow = true := by kernel_rfl
theorem cf23 : (fun (P : Program) (f : FuncId) (fn : Func) (s : ChangeSpec) (c : OpenClaim) => (c.shortTexts.isNone : Bool)) Try.prog 9 Try.f9 Rows.fnExactPolOrderSpec Rows.fnExactPolOrderRow = true := by kernel_rfl
theorem cf28 : (fun (P : Program) (f : FuncId) (fn : Func) (s : ChangeSpec) (c : OpenClaim) => ((c.kinds == (if c.domain.isEmpty then [] else fn.params.toList.map fun t => match P.underlying t with | some (.int k) => some k | _ => none)) : Bool)) Try.prog 9 Try.f9 Rows.fnExactPolOrderSpec Rows.fnExactPolOrderRow = true := by kernel_rfl
theorem cf29 : (fun (P : Program) (f : FuncId) (fn : Func) (s : ChangeSpec) (c : OpenClaim) => ((c.pinned == c.pinnedBy) : Bool)) Try.prog 9 Try.f9 Rows.fnExactPolOrderSpec Rows.fnExactPolOrderRow = true := by kernel_rfl
theorem cf30 : (fun (P : Program) (f : FuncId) (fn : Func) (s : ChangeSpec) (c : OpenClaim) => ((c.veiled == (fn.params.toList ++ s.plain.varTypes P ++ fn.resultTypes.toList).any (P.veiledRec ·)) : Bool)) Try.prog 9 Try.f9 Rows.fnExactPolOrderSpec Rows.fnExactPolOrderRow = true := by kernel_rfl
theorem cf31 : (fun (P : Program) (f : FuncId) (fn : Func) (s : ChangeSpec) (c : OpenClaim) => (c.veiledFits P fn.params.toList (fn.params.toList ++ s.plain.varTypes P ++ fn.resultTypes.toList) : Bool)) Try.prog 9 Try.f9 Rows.fnExactPolOrderSpec Rows.fnExactPolOrderRow = true := by kernel_rfl

set_option maxRecDepth 100000 in
theorem closed : joinedFacts Try.prog 9 Try.f9 Rows.fnExactPolOrderSpec Rows.fnExactPolOrderRow = true := by
  unfold joinedFacts
  exact (band (band (band (band (band (band (band (band (band (band (band (band (band (band (band (band (band (band (band (band (band (band (band (band (band (band (band (band (band (band (band cf0 pf1) pf2) cf3) cf4) cf5) pf6) cf7) pf8) cf9) cf10) cf11) cf12) cf13) cf14) cf15) cf16) cf17) cf18) cf19) cf20) cf21) pf22) cf23) pf24) pf25) pf26) pf27) cf28) cf29) cf30) cf31)
theorem inst : Try.f9.isInstance Try.prog Rows.fnExactPolOrderRow.origin Rows.fnExactPolOrderRow.targs := of_decide_eq_true (by kernel_rfl)
theorem wrap_ : Try.f9.isWrapper Try.prog Rows.fnExactPolOrderRow.wrapper Rows.fnExactPolOrderRow.mainSum := by
  unfold Func.isWrapper
  rw [if_neg (by decide +kernel)]
  exact ⟨rfl, rfl⟩

theorem over : Rows.fnExactPolOrderRow.holds Try.pinned (OpenSpec.ofChange Rows.fnExactPolOrderSpec) :=
  OpenClaim.holds_of_wide 9 Try.f9 rfl rfl rfl rfl rfl rfl rfl ⟨rfl, rfl, rfl, rfl, rfl⟩ rfl rfl rfl rfl rfl (by as_aux_lemma => kernel_rfl) Try.func9 closed inst wrap_
    (fun os started H enc _ => lifted os started H enc)

theorem proved : Rows.FnExactPolOrderSaid := over
#print axioms proved
end Go.Proofs.Ytmlegiifceangaa.fnExactPolOrder
