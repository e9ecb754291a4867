/- The law FnExactPolScale: PolScale returns what the reference's PolScale returns, for every sum and number, in memory of its own, and leaves the sum as it is. Conditions: none. -/
import Derived.Test.YtmlegiifceangaaRows
import Derived.WalkKit
import Derived.ProofKit
import Derived.OpenShut
import Derived.ShutString
import Derived.ChangeOld
import Derived.Below
import Derived.Carry
import Derived.Test.YtmlegiifceangaaF
import Derived.Test.YtmlegiifceangaaK
import Derived.Test.YtmlegiifceangaaZ8
import Derived.Test.YtmlegiifceangaaE
import Derived.Test.YtmlegiifceangaaH
import Derived.Deep.RegionHeld3
import Derived.Deep.DeepCutAuto
namespace Go.Proofs.Ytmlegiifceangaa.fnExactPolScale
open Go.ChangeShapes Go.WideShapes Go.ChangeAt Go.RowKit
set_option linter.unusedVariables false
set_option linter.unusedSimpArgs false

theorem tot_ok {d : List Mono} (h : polOk d = true) {ms : List Mn} (e : ms.map Mn.dat = d) : totM ms ≤ 100 := by
  subst e
  obtain ⟨h1, h2, _⟩ := ok_small h
  have : ∀ l : List Mn, (∀ m ∈ l, m.xs.length ≤ 4) → (l.map fun m => m.xs.length).sum ≤ 4 * l.length := fun l => by
    induction l with
    | nil => intro _; simp
    | cons a l ih =>
      intro hl
      have := ih fun m hm => hl m (List.mem_cons_of_mem _ hm)
      have := hl a List.mem_cons_self
      simp only [List.map_cons, List.sum_cons, List.length_cons]
      omega
  have := this ms h2
  unfold totM
  omega

set_option maxRecDepth 100000 in
set_option maxHeartbeats 2000000 in
theorem walk (A0 : Option Addr) (k0 : Nat) (ms0 : List Mn) (a1 : Int) (w : World) (h0 : AM w A0 ms0) (s0 : SzA ms0) (wf1 : (Lit.int .i64 a1).wf = true) :
    Calls Try.prog 19 #[.agg #[.slice A0 ms0.length k0], .int .i64 a1] w fun e w' => e = .returned (.bool true) ∧ Ext w w' := by
  by_cases hq : (1048576 : Int) < totM ms0
  · have e1 := hid (szF_lt hq)
    have hb : szF 1048576 (totM ms0) < 0 := by rw [szF_lt hq]; omega
    go_enter Try.func19, Try.ntmps19
    go_wp2_with fail
    refine (szPoly _ _ _ _ _ (h0.ext (by repeat (first | with_reducible assumption | with_reducible exact Ext.refl _ | with_reducible apply Ext.drewN | with_reducible apply Ext.drew | with_reducible apply Ext.alloc | with_reducible refine Ext.set ?_ (by first | (simp; done) | (simp; omega)) _ | with_reducible refine Ext.next ?_ (by with_reducible assumption)))) s0 (by omega) (by omega)).mono ?_
    rintro e w2 ⟨rfl, hw2⟩
    go_wp2
    go_ret
    exact ⟨rfl, (by repeat (first | with_reducible assumption | with_reducible exact Ext.refl _ | with_reducible apply Ext.drewN | with_reducible apply Ext.drew | with_reducible apply Ext.alloc | with_reducible refine Ext.set ?_ (by first | (simp; done) | (simp; omega)) _ | with_reducible refine Ext.next ?_ (by with_reducible assumption)))⟩
  have hb : 0 ≤ szF 1048576 (totM ms0) := by rw [szF_ge (by omega)]; omega
  have ht0 : totM ms0 ≤ 1048576 := by omega
  obtain ⟨hn0, hx0⟩ := tot_one ht0
  obtain ⟨dd, hdd⟩ : ∃ d : List Mono, d = polScale (ms0.map Mn.dat) a1 := ⟨_, rfl⟩
  have HTD : Hid (∀ ms : List Mn, ms.map Mn.dat = dd → totM ms ≤ 100) := hid fun ms e => tot_ok (polOk_polScale (ms0.map Mn.dat) a1) (e.trans hdd)
  have HDD := hid hdd
  clear hq hdd
  go_enter Try.func19, Try.ntmps19
  go_wp2_with fail
  refine (szPoly _ _ _ _ _ (h0.ext (by repeat (first | with_reducible assumption | with_reducible exact Ext.refl _ | with_reducible apply Ext.drewN | with_reducible apply Ext.drew | with_reducible apply Ext.alloc | with_reducible refine Ext.set ?_ (by first | (simp; done) | (simp; omega)) _ | with_reducible refine Ext.next ?_ (by with_reducible assumption)))) s0 (by omega) (by omega)).mono ?_
  rintro e w3 ⟨rfl, hw3⟩
  have d0 : w3.cell? ⟨w.heap.size, 0, none⟩ = some (.slice A0 ms0.length k0) := keep hw3 (by go_simp)
  have l3 := World.block_lt_of_cell? _ _ d0
  simp only at l3
  have hx3 : Ext w w3 := (by repeat (first | with_reducible assumption | with_reducible exact Ext.refl _ | with_reducible apply Ext.drewN | with_reducible apply Ext.drew | with_reducible apply Ext.alloc | with_reducible refine Ext.set ?_ (by first | (simp; done) | (simp; omega)) _ | with_reducible refine Ext.next ?_ (by with_reducible assumption)))
  clear hw3
  go_wp2_with fail
  refine (toPoly _ _ _ _ (h0.ext (by repeat (first | with_reducible assumption | with_reducible exact Ext.refl _ | with_reducible apply Ext.drewN | with_reducible apply Ext.drew | with_reducible apply Ext.alloc | with_reducible refine Ext.set ?_ (by first | (simp; done) | (simp; omega)) _ | with_reducible refine Ext.next ?_ (by with_reducible assumption)))) hn0 hx0).mono ?_
  rintro e w4 ⟨A4, k4, ms4, rfl, hd4, ho4, hw4⟩
  have HD4 := hid hd4
  have hs4 := SzM.of_dat hd4 ht0
  clear hd4
  go_wp2_with fail
  refine (specPolScale _ _ ms4 a1 _ (ho4.rn.ext (by repeat (first | with_reducible assumption | with_reducible exact Ext.refl _ | with_reducible apply Ext.drewN | with_reducible apply Ext.drew | with_reducible apply Ext.alloc | with_reducible refine Ext.set ?_ (by first | (simp; done) | (simp; omega)) _ | with_reducible refine Ext.next ?_ (by with_reducible assumption)))) hs4).mono ?_
  rintro e wc ⟨Ap, kp, msp, rfl, hdc, hoc, hwc⟩
  have HDP : Hid (msp.map Mn.dat = dd) := hid (by rw [hdc, HD4.out, HDD.out])
  have hrp := hoc.rm
  have hx5 : Ext w3 wc := (by repeat (first | with_reducible assumption | with_reducible exact Ext.refl _ | with_reducible apply Ext.drewN | with_reducible apply Ext.drew | with_reducible apply Ext.alloc | with_reducible refine Ext.set ?_ (by first | (simp; done) | (simp; omega)) _ | with_reducible refine Ext.next ?_ (by with_reducible assumption)))
  have hxc := hx3.next hx5
  have lc := lt_ext hx5 l3
  have e0 := keep hx5 d0
  clear hdc d0 hoc hwc hb
  go_wp2_with fail
  refine (toPoly _ _ _ _ (h0.ext (by repeat (first | with_reducible assumption | with_reducible exact Ext.refl _ | with_reducible apply Ext.drewN | with_reducible apply Ext.drew | with_reducible apply Ext.alloc | with_reducible refine Ext.set ?_ (by first | (simp; done) | (simp; omega)) _ | with_reducible refine Ext.next ?_ (by with_reducible assumption)))) hn0 hx0).mono ?_
  rintro e w7 ⟨A7, k7, ms7, rfl, hd7, ho7, hw7⟩
  have HD7 := hid hd7
  have hs7 := SzM.of_dat hd7 ht0
  clear hd7
  have cp : w7.cell? ⟨wc.heap.size, 0, none⟩ = some (.slice Ap msp.length kp) := keep hw7 (by go_simp)
  have hx7 : Ext wc w7 := (by repeat (first | with_reducible assumption | with_reducible exact Ext.refl _ | with_reducible apply Ext.drewN | with_reducible apply Ext.drew | with_reducible apply Ext.alloc | with_reducible refine Ext.set ?_ (by first | (simp; done) | (simp; omega)) _ | with_reducible refine Ext.next ?_ (by with_reducible assumption)))
  have lp := World.block_lt_of_cell? _ _ cp
  simp only at lp
  have hs78 := hw7.size
  go_wp2_with fail
  refine (implPolScale _ _ ms7 a1 _ (ho7.rn.ext (by repeat (first | with_reducible assumption | with_reducible exact Ext.refl _ | with_reducible apply Ext.drewN | with_reducible apply Ext.drew | with_reducible apply Ext.alloc | with_reducible refine Ext.set ?_ (by first | (simp; done) | (simp; omega)) _ | with_reducible refine Ext.next ?_ (by with_reducible assumption)))) hs7).mono ?_
  rintro e w9 ⟨A9, k9, ms9, rfl, hd9, ho9, hw9⟩
  have HD9 : Hid (ms9.map Mn.dat = dd) := hid (by rw [hd9, HD7.out, HDD.out])
  have ht9 := HTD.out ms9 HD9.out
  have htp := HTD.out msp HDP.out
  have ht7 : totM ms7 ≤ 1048576 := by rw [tot_dat HD7.out]; exact ht0
  have hx9 : Ext w7 w9 := (by repeat (first | with_reducible assumption | with_reducible exact Ext.refl _ | with_reducible apply Ext.drewN | with_reducible apply Ext.drew | with_reducible apply Ext.alloc | with_reducible refine Ext.set ?_ (by first | (simp; done) | (simp; omega)) _ | with_reducible refine Ext.next ?_ (by with_reducible assumption)))
  have hx9c := hx7.next hx9
  have i0 := keep hx9c e0
  have ip := keep hx9 cp
  have i7 : w9.cell? ⟨w7.heap.size, 0, none⟩ = some (.slice A7 ms7.length k7) := keep hw9 (by go_simp)
  have m0 := lt_ext hx9c lc
  have m7 := World.block_lt_of_cell? _ _ i7
  simp only at m7
  have mp := lt_ext hx9 lp
  have hn9 : ms9.length < 4611686018427387904 := by unfold totM at ht9; omega
  have hnp : msp.length < 4611686018427387904 := by unfold totM at htp; omega
  clear e0 cp hd9
  go_wp2_with fail
  refine (eqPoly _ _ _ _ _ _ ms9 msp _ (ho9.rm.ext (by repeat (first | with_reducible assumption | with_reducible exact Ext.refl _ | with_reducible apply Ext.drewN | with_reducible apply Ext.drew | with_reducible apply Ext.alloc | with_reducible refine Ext.set ?_ (by first | (simp; done) | (simp; omega)) _ | with_reducible refine Ext.next ?_ (by with_reducible assumption)))) (hrp.ext (by repeat (first | with_reducible assumption | with_reducible exact Ext.refl _ | with_reducible apply Ext.drewN | with_reducible apply Ext.drew | with_reducible apply Ext.alloc | with_reducible refine Ext.set ?_ (by first | (simp; done) | (simp; omega)) _ | with_reducible refine Ext.next ?_ (by with_reducible assumption)))) (HD9.out.trans HDP.out.symm) rfl rfl (SzM.of_tot (by omega))).mono ?_
  rintro e w10 ⟨rfl, hw10⟩
  have jg : w10.cell? ⟨w9.heap.size, 0, none⟩ = some (.slice A9 ms9.length k9) := keep hw10 (by go_simp)
  have hx10 : Ext w9 w10 := (by repeat (first | with_reducible assumption | with_reducible exact Ext.refl _ | with_reducible apply Ext.drewN | with_reducible apply Ext.drew | with_reducible apply Ext.alloc | with_reducible refine Ext.set ?_ (by first | (simp; done) | (simp; omega)) _ | with_reducible refine Ext.next ?_ (by with_reducible assumption)))
  have hx710 := hx9.next hx10
  have j0 := keep hx10 i0
  have jp := keep hx10 ip
  have j7 := keep hx10 i7
  clear i0 ip i7
  go_wp2
  go_region_held3 (fun w' => w'.cell? ⟨w.heap.size, 0, none⟩ = some (.slice A0 ms0.length k0) ∧ w'.cell? ⟨w7.heap.size, 0, none⟩ = some (.slice A7 ms7.length k7)) (refine ⟨?_, ?_⟩ <;> ((repeat (first | with_reducible assumption | with_reducible refine keep (Ext.alloc (Ext.refl _) _) ?_ | with_reducible refine keep (Ext.drew (Ext.refl _)) ?_ | with_reducible refine keep (Ext.drewN (Ext.refl _) _) ?_ | with_reducible refine keep (by with_reducible assumption) ?_)); done)) (first | (go_at_call_of 51 (Value.agg #[Value.slice A0 ms0.length k0]); refine (toPoly _ _ _ _ (h0.ext (by repeat (first | with_reducible assumption | with_reducible exact Ext.refl _ | with_reducible apply Ext.drewN | with_reducible apply Ext.drew | with_reducible apply Ext.alloc | with_reducible refine Ext.set ?_ (by first | (simp; done) | (simp; omega)) _ | with_reducible refine Ext.next ?_ (by with_reducible assumption)))) hn0 hx0).mono ?_; rintro e w11 ⟨A11, k11, ms11, rfl, hd11, ho11, hw11⟩; have HD11 := hid hd11; clear hd11) | (go_at_call_of 42 (Value.agg #[Value.slice A7 ms7.length k7]); refine (eqPoly _ _ _ _ _ _ ms7 ms11 _ (ho7.rm.ext (by repeat (first | with_reducible assumption | with_reducible exact Ext.refl _ | with_reducible apply Ext.drewN | with_reducible apply Ext.drew | with_reducible apply Ext.alloc | with_reducible refine Ext.set ?_ (by first | (simp; done) | (simp; omega)) _ | with_reducible refine Ext.next ?_ (by with_reducible assumption)))) (ho11.rm.ext (by repeat (first | with_reducible assumption | with_reducible exact Ext.refl _ | with_reducible apply Ext.drewN | with_reducible apply Ext.drew | with_reducible apply Ext.alloc | with_reducible refine Ext.set ?_ (by first | (simp; done) | (simp; omega)) _ | with_reducible refine Ext.next ?_ (by with_reducible assumption)))) (HD7.out.trans HD11.out.symm) rfl rfl hs7).mono ?_; rintro e w12 ⟨rfl, hw12⟩))
  have hx14 : Ext w10 w12 := (by repeat (first | with_reducible assumption | with_reducible exact Ext.refl _ | with_reducible apply Ext.drewN | with_reducible apply Ext.drew | with_reducible apply Ext.alloc | with_reducible refine Ext.set ?_ (by first | (simp; done) | (simp; omega)) _ | with_reducible refine Ext.next ?_ (by with_reducible assumption)))
  have q0 := keep hx14 j0
  have qp := keep hx14 jp
  have q7 := keep hx14 j7
  have qg := keep hx14 jg
  have hx914 : Ext w9 w12 := hx10.next hx14
  have hx714 := hx9.next hx914
  clear j0 jp j7 jg
  have z7 := lt_ext hx914 m7
  have hxc14 : Ext wc w12 := hx9c.next hx914
  have hxw14 : Ext w w12 := hxc.next hxc14
  have hfo7 : ∀ b, foot A7 ms7 b → wc.heap.size + 1 ≤ b ∧ b < w7.heap.size := fun b hb => by have := ho7.foot_ hb; simp at this; omega
  have hfo9 : ∀ b, foot A9 ms9 b → w7.heap.size + 1 ≤ b ∧ b < w9.heap.size := fun b hb => by have := ho9.foot_ hb; simp at this; omega
  go_wp2_with fail
  refine (markPoly _ _ _ _ _ _ (ho7.ext (by repeat (first | with_reducible assumption | with_reducible exact Ext.refl _ | with_reducible apply Ext.drewN | with_reducible apply Ext.drew | with_reducible apply Ext.alloc | with_reducible refine Ext.set ?_ (by first | (simp; done) | (simp; omega)) _ | with_reducible refine Ext.next ?_ (by with_reducible assumption)))) (by omega) (by omega)).mono ?_
  rintro e w16 ⟨rfl, _, hu16⟩
  have U16 : Upd (fun b => wc.heap.size + 1 ≤ b ∧ b < w7.heap.size) w12 w16 := hu16.mono fun b _ hb => hfo7 b hb
  have hrp' : RM 86 3 w16 Ap msp := RM.upd_lt hrp hxc14 U16 fun b hb hb' => by omega
  have ho9' : OM 86 3 w16 (w7.heap.size + 1) A9 k9 ms9 := ((ho9.ext hx914).upd U16 (fun b hb hb' => by have := hfo9 b hb; omega)).base (by simp)
  have sz14 := hx914.size
  have t0 : w16.cell? ⟨w.heap.size, 0, none⟩ = some (.slice A0 ms0.length k0) := (U16.cell (p := ⟨w.heap.size, 0, none⟩) (by simp only; omega) (fun hb => by simp only at hb; omega)).trans q0
  have tp : w16.cell? ⟨wc.heap.size, 0, none⟩ = some (.slice Ap msp.length kp) := (U16.cell (p := ⟨wc.heap.size, 0, none⟩) (by simp only; omega) (fun hb => by simp only at hb; omega)).trans qp
  have lg := World.block_lt_of_cell? _ _ qg
  simp only at lg
  have tg : w16.cell? ⟨w9.heap.size, 0, none⟩ = some (.slice A9 ms9.length k9) := (U16.cell (p := ⟨w9.heap.size, 0, none⟩) (by simp only; omega) (fun hb => by simp only at hb; omega)).trans qg
  have hxw16 : Ext w w16 := ((Upd.of_ext hxw14).next U16).ext fun b hb => by have := hxc.size; omega
  have sz16 := U16.size
  have lg16 := World.block_lt_of_cell? _ _ tg
  simp only at lg16
  have lp16 := World.block_lt_of_cell? _ _ tp
  simp only at lp16
  have hbk : decide ((1 : Int) + (totM ms7 : Int) < 0) = false := by rw [decide_eq_false_iff_not]; omega
  have hbg : decide ((1 : Int) + (totM ms9 : Int) < 0) = false := by rw [decide_eq_false_iff_not]; omega
  have HU16 := hid U16
  have HRP := hid hrp
  clear q0 qp q7 qg hu16 U16 hrp ho9 ho7 hw7 hw9 hw10
  go_wp2_with fail
  refine (eqPoly _ _ _ _ _ _ ms9 msp _ (ho9'.rm.ext (by repeat (first | with_reducible assumption | with_reducible exact Ext.refl _ | with_reducible apply Ext.drewN | with_reducible apply Ext.drew | with_reducible apply Ext.alloc | with_reducible refine Ext.set ?_ (by first | (simp; done) | (simp; omega)) _ | with_reducible refine Ext.next ?_ (by with_reducible assumption)))) (hrp'.ext (by repeat (first | with_reducible assumption | with_reducible exact Ext.refl _ | with_reducible apply Ext.drewN | with_reducible apply Ext.drew | with_reducible apply Ext.alloc | with_reducible refine Ext.set ?_ (by first | (simp; done) | (simp; omega)) _ | with_reducible refine Ext.next ?_ (by with_reducible assumption)))) (HD9.out.trans HDP.out.symm) rfl rfl (SzM.of_tot (by omega))).mono ?_
  rintro e w17 ⟨rfl, hw17⟩
  have hx17 : Ext w16 w17 := (by repeat (first | with_reducible assumption | with_reducible exact Ext.refl _ | with_reducible apply Ext.drewN | with_reducible apply Ext.drew | with_reducible apply Ext.alloc | with_reducible refine Ext.set ?_ (by first | (simp; done) | (simp; omega)) _ | with_reducible refine Ext.next ?_ (by with_reducible assumption)))
  have y0 := keep hx17 t0
  have yp := keep hx17 tp
  have yg := keep hx17 tg
  have sz17 := hx17.size
  clear t0 tp tg
  go_wp2_with fail
  refine (markPoly _ _ _ _ _ _ (ho9'.ext (by repeat (first | with_reducible assumption | with_reducible exact Ext.refl _ | with_reducible apply Ext.drewN | with_reducible apply Ext.drew | with_reducible apply Ext.alloc | with_reducible refine Ext.set ?_ (by first | (simp; done) | (simp; omega)) _ | with_reducible refine Ext.next ?_ (by with_reducible assumption)))) (by omega) (by omega)).mono ?_
  rintro e w18 ⟨rfl, ho18, hu18⟩
  have x0 : w18.cell? ⟨w.heap.size, 0, none⟩ = some (.slice A0 ms0.length k0) := (hu18.cell (p := ⟨w.heap.size, 0, none⟩) (by simp only; omega) (fun hb => by have := hfo9 _ hb; simp only at this; omega)).trans y0
  have xp : w18.cell? ⟨wc.heap.size, 0, none⟩ = some (.slice Ap msp.length kp) := (hu18.cell (p := ⟨wc.heap.size, 0, none⟩) (by simp only; omega) (fun hb => by have := hfo9 _ hb; simp only at this; omega)).trans yp
  have xg : w18.cell? ⟨w9.heap.size, 0, none⟩ = some (.slice A9 ms9.length k9) := (hu18.cell (p := ⟨w9.heap.size, 0, none⟩) (by simp only; omega) (fun hb => by have := hfo9 _ hb; simp only at this; omega)).trans yg
  have U18 : Upd (fun b => wc.heap.size ≤ b) w12 w18 := ((HU16.out.mono fun b _ hb => Nat.le_of_succ_le hb.1).next (.of_ext hx17)).next (hu18.mono fun b _ hb => by have := hfo9 b hb; omega)
  have hrp2 : RM 86 3 w18 Ap msp := RM.upd_lt HRP.out hxc14 U18 fun b hb hb' => by omega
  have hxw18 : Ext w w18 := ((Upd.of_ext (hxw16.next hx17)).next hu18).ext fun b hb => by have := hfo9 b hb; have := hxc.size; omega
  have hr9 := ho18.rm
  have sz18 := hu18.size
  clear y0 yp yg hu18 ho18 ho9' hrp' hw17 U18 HU16 HRP
  go_wp2_with fail
  refine (heldPoly _ _ _ _ _ (hr9.ext (by repeat (first | with_reducible assumption | with_reducible exact Ext.refl _ | with_reducible apply Ext.drewN | with_reducible apply Ext.drew | with_reducible apply Ext.alloc | with_reducible refine Ext.set ?_ (by first | (simp; done) | (simp; omega)) _ | with_reducible refine Ext.next ?_ (by with_reducible assumption)))) (by omega) (by omega)).mono ?_
  rintro e w19 ⟨rfl, hw19⟩
  have hx19 : Ext w18 w19 := (by repeat (first | with_reducible assumption | with_reducible exact Ext.refl _ | with_reducible apply Ext.drewN | with_reducible apply Ext.drew | with_reducible apply Ext.alloc | with_reducible refine Ext.set ?_ (by first | (simp; done) | (simp; omega)) _ | with_reducible refine Ext.next ?_ (by with_reducible assumption)))
  have v0 := keep hx19 x0
  have vp := keep hx19 xp
  have vg := keep hx19 xg
  have hxw19 := hxw18.next hx19
  have l19 := World.block_lt_of_cell? _ _ v0
  simp only at l19
  have sz19 := hx19.size
  clear x0 xp xg hw19
  go_wp2_with fail
  refine (toPoly _ _ _ _ (h0.ext (by repeat (first | with_reducible assumption | with_reducible exact Ext.refl _ | with_reducible apply Ext.drewN | with_reducible apply Ext.drew | with_reducible apply Ext.alloc | with_reducible refine Ext.set ?_ (by first | (simp; done) | (simp; omega)) _ | with_reducible refine Ext.next ?_ (by with_reducible assumption)))) hn0 hx0).mono ?_
  rintro e w20 ⟨A20, k20, ms20, rfl, hd20, ho20, hw20⟩
  have HD20 := hid hd20
  have hs20 := SzM.of_dat hd20 ht0
  clear hd20
  have hx20 : Ext w19 w20 := (by repeat (first | with_reducible assumption | with_reducible exact Ext.refl _ | with_reducible apply Ext.drewN | with_reducible apply Ext.drew | with_reducible apply Ext.alloc | with_reducible refine Ext.set ?_ (by first | (simp; done) | (simp; omega)) _ | with_reducible refine Ext.next ?_ (by with_reducible assumption)))
  go_wp2_with fail
  refine (implPolScale _ _ ms20 a1 _ (ho20.rn.ext (by repeat (first | with_reducible assumption | with_reducible exact Ext.refl _ | with_reducible apply Ext.drewN | with_reducible apply Ext.drew | with_reducible apply Ext.alloc | with_reducible refine Ext.set ?_ (by first | (simp; done) | (simp; omega)) _ | with_reducible refine Ext.next ?_ (by with_reducible assumption)))) hs20).mono ?_
  rintro e w21 ⟨A21, k21, ms21, rfl, hd21, ho21, hw21⟩
  have HD21 : Hid (ms21.map Mn.dat = dd) := hid (by rw [hd21, HD20.out, HDD.out])
  have ht21 := HTD.out ms21 HD21.out
  have hn21 : ms21.length < 4611686018427387904 := by unfold totM at ht21; omega
  have hx21 : Ext w19 w21 := (by repeat (first | with_reducible assumption | with_reducible exact Ext.refl _ | with_reducible apply Ext.drewN | with_reducible apply Ext.drew | with_reducible apply Ext.alloc | with_reducible refine Ext.set ?_ (by first | (simp; done) | (simp; omega)) _ | with_reducible refine Ext.next ?_ (by with_reducible assumption)))
  have up := keep hx21 vp
  have ug := keep hx21 vg
  have lup := World.block_lt_of_cell? _ _ up
  simp only at lup
  have lug := World.block_lt_of_cell? _ _ ug
  simp only at lug
  have hx1821 := hx19.next hx21
  have hxw21 := hxw19.next hx21
  have hr9q := hr9.ext hx1821
  have hrpq := hrp2.ext hx1821
  clear hd21 v0 vp vg
  go_wp2_with fail
  refine (eqPoly _ _ _ _ _ _ ms21 msp _ (ho21.rm.ext (by repeat (first | with_reducible assumption | with_reducible exact Ext.refl _ | with_reducible apply Ext.drewN | with_reducible apply Ext.drew | with_reducible apply Ext.alloc | with_reducible refine Ext.set ?_ (by first | (simp; done) | (simp; omega)) _ | with_reducible refine Ext.next ?_ (by with_reducible assumption)))) (hrpq.ext (by repeat (first | with_reducible assumption | with_reducible exact Ext.refl _ | with_reducible apply Ext.drewN | with_reducible apply Ext.drew | with_reducible apply Ext.alloc | with_reducible refine Ext.set ?_ (by first | (simp; done) | (simp; omega)) _ | with_reducible refine Ext.next ?_ (by with_reducible assumption)))) (HD21.out.trans HDP.out.symm) rfl rfl (SzM.of_tot (by omega))).mono ?_
  rintro e w23 ⟨rfl, hw23⟩
  have fg : w23.cell? ⟨w9.heap.size, 0, none⟩ = some (.slice A9 ms9.length k9) := keep hw23 (by go_simp)
  have hx23 : Ext w21 w23 := (by repeat (first | with_reducible assumption | with_reducible exact Ext.refl _ | with_reducible apply Ext.drewN | with_reducible apply Ext.drew | with_reducible apply Ext.alloc | with_reducible refine Ext.set ?_ (by first | (simp; done) | (simp; omega)) _ | with_reducible refine Ext.next ?_ (by with_reducible assumption)))
  have hr9z := hr9q.ext hx23
  have hxw23 := hxw21.next hx23
  go_wp2_with fail
  refine (heldPoly _ _ _ _ _ (hr9z.ext (by repeat (first | with_reducible assumption | with_reducible exact Ext.refl _ | with_reducible apply Ext.drewN | with_reducible apply Ext.drew | with_reducible apply Ext.alloc | with_reducible refine Ext.set ?_ (by first | (simp; done) | (simp; omega)) _ | with_reducible refine Ext.next ?_ (by with_reducible assumption)))) (by omega) (by omega)).mono ?_
  rintro e w24 ⟨rfl, hw24⟩
  go_wp2
  go_ret
  exact ⟨rfl, (by repeat (first | with_reducible assumption | with_reducible exact Ext.refl _ | with_reducible apply Ext.drewN | with_reducible apply Ext.drew | with_reducible apply Ext.alloc | with_reducible refine Ext.set ?_ (by first | (simp; done) | (simp; omega)) _ | with_reducible refine Ext.next ?_ (by with_reducible assumption)))⟩

set_option maxRecDepth 100000 in
theorem lifted (os : Os) (started : os.Started) (H : Type) (enc : TypeId × Value → H) :
    ReturnsInHanded {} Try.checked os 19 .any (Rows.fnExactPolScaleSpec.pre6 enc Try.prog Try.f19 Rows.fnExactPolScaleRow.domain false) (Rows.fnExactPolScaleSpec.post enc Try.prog Try.f19 false true false false) := by
  refine returnsInHanded_of_change (C := Try.checked) ownKnob_ started (by kernel_rfl) Try.func19
    (ChangeSpec.witness6 (enc := enc) (C := Try.checked) false ⟨#[], #[.agg #[.slice none 0 0], .int .i64 0], []⟩ 8 (by kernel_rfl) (by kernel_rfl) (by kernel_rfl) (by kernel_rfl)) ?_
  intro W base args ds gs before hval0 hW hcnd _
  have hval : ∀ (j : Nat) t v, Try.f19.params[j]? = some t → args[j]? = some v → Value.okWide Try.prog W .any base t v := hval0
  have hW' := hW
  obtain ⟨p, q, hA0, hV, rfl, hfz, hnd⟩ := hW
  have hA : DataW.TrodAll enc Try.prog W 0 (fun _ => true) true Try.f19.params.toList args.toList ds p := hA0
  rw [Try.params19] at hA hval
  obtain ⟨v0, vs0, d0, ds0, p0, q0, hargs, rfl, rfl, g0, r0⟩ := trodAll_cons hA
  obtain ⟨v1, vs1, d1, ds1, p1, q1, rfl, rfl, rfl, g1, r1⟩ := trodAll_cons r0
  obtain ⟨rfl, rfl, rfl⟩ := trodAll_nil r1
  obtain rfl : args = #[v0, v1] := by cases args; simp_all
  obtain ⟨rfl, rfl⟩ := trodVars_none hV
  have lt0 : ∀ x ∈ p0, x.block < W.heap.size := by obtain ⟨m, hm⟩ := g0; exact DataW.trod_lt m _ _ _ hm
  obtain ⟨A0, k0, ms0, e0, h0, s0⟩ := read_poly (hval 0 48 v0 rfl rfl) g0
  subst e0
  have lt1 : ∀ x ∈ p1, x.block < W.heap.size := by obtain ⟨m, hm⟩ := g1; exact DataW.trod_lt m _ _ _ hm
  obtain ⟨a1, e1, wf1⟩ := read_int (hval 1 3 v1 rfl rfl) g1
  subst e1
  clear hA0 hval0
  refine (walk A0 k0 ms0 a1 W h0 s0 wf1).mono fun e W' ⟨he, bel⟩ => ?_
  subst he
  exact ⟨_, rfl, _, _, _, [], _, [], hW', trodAll_mk1 (shut_bool Try.underlying4 _), (trodAll_cons_mk (Below.trod laidOut_ (by kernel_rfl) (of_decide_eq_true (by kernel_rfl)) g0 bel.out lt0) (trodAll_cons_mk (Below.trod laidOut_ (by kernel_rfl) (of_decide_eq_true (by kernel_rfl)) g1 bel.out lt1) trodAll_mk0)), rfl, bel.out.frame _, fun h => by cases h⟩
theorem cf0 : (fun (P : Program) (f : FuncId) (fn : Func) (s : ChangeSpec) (c : OpenClaim) => (c.wf (OpenSpec.ofChange s) : Bool)) Try.prog 19 Try.f19 Rows.fnExactPolScaleSpec Rows.fnExactPolScaleRow = true := by kernel_rfl
theorem cf3 : (fun (P : Program) (f : FuncId) (fn : Func) (s : ChangeSpec) (c : OpenClaim) => (fn.params.all (P.readableRec ·) : Bool)) Try.prog 19 Try.f19 Rows.fnExactPolScaleSpec Rows.fnExactPolScaleRow = true := by kernel_rfl
theorem cf4 : (fun (P : Program) (f : FuncId) (fn : Func) (s : ChangeSpec) (c : OpenClaim) => (namedTie P c.named s.vars : Bool)) Try.prog 19 Try.f19 Rows.fnExactPolScaleSpec Rows.fnExactPolScaleRow = true := by kernel_rfl
theorem cf5 : (fun (P : Program) (f : FuncId) (fn : Func) (s : ChangeSpec) (c : OpenClaim) => ((c.stops == []) : Bool)) Try.prog 19 Try.f19 Rows.fnExactPolScaleSpec Rows.fnExactPolScaleRow = true := by kernel_rfl
theorem cf7 : (fun (P : Program) (f : FuncId) (fn : Func) (s : ChangeSpec) (c : OpenClaim) => ((c.knobs == []) : Bool)) Try.prog 19 Try.f19 Rows.fnExactPolScaleSpec Rows.fnExactPolScaleRow = true := by kernel_rfl
theorem cf9 : (fun (P : Program) (f : FuncId) (fn : Func) (s : ChangeSpec) (c : OpenClaim) => ((c.inPlace == P.inPlace f) : Bool)) Try.prog 19 Try.f19 Rows.fnExactPolScaleSpec Rows.fnExactPolScaleRow = true := by kernel_rfl
theorem cf10 : (fun (P : Program) (f : FuncId) (fn : Func) (s : ChangeSpec) (c : OpenClaim) => ((c.unfollowed == P.unfollowed f) : Bool)) Try.prog 19 Try.f19 Rows.fnExactPolScaleSpec Rows.fnExactPolScaleRow = true := by kernel_rfl
theorem cf11 : (fun (P : Program) (f : FuncId) (fn : Func) (s : ChangeSpec) (c : OpenClaim) => ((c.recurses == P.recurses f) : Bool)) Try.prog 19 Try.f19 Rows.fnExactPolScaleSpec Rows.fnExactPolScaleRow = true := by kernel_rfl
theorem cf12 : (fun (P : Program) (f : FuncId) (fn : Func) (s : ChangeSpec) (c : OpenClaim) => ((c.named == P.varsNamed f) : Bool)) Try.prog 19 Try.f19 Rows.fnExactPolScaleSpec Rows.fnExactPolScaleRow = true := by kernel_rfl
theorem cf13 : (fun (P : Program) (f : FuncId) (fn : Func) (s : ChangeSpec) (c : OpenClaim) => ((c.maps == (fn.params.toList ++ s.plain.varTypes P).any (P.mapsRec ·)) : Bool)) Try.prog 19 Try.f19 Rows.fnExactPolScaleSpec Rows.fnExactPolScaleRow = true := by kernel_rfl
theorem cf14 : (fun (P : Program) (f : FuncId) (fn : Func) (s : ChangeSpec) (c : OpenClaim) => ((c.ifaces == (fn.params.toList ++ s.plain.varTypes P).any (P.ifacesRec ·)) : Bool)) Try.prog 19 Try.f19 Rows.fnExactPolScaleSpec Rows.fnExactPolScaleRow = true := by kernel_rfl
theorem cf15 : (fun (P : Program) (f : FuncId) (fn : Func) (s : ChangeSpec) (c : OpenClaim) => ((c.mapsOut == P.mapsAmong fn.resultTypes.toList) : Bool)) Try.prog 19 Try.f19 Rows.fnExactPolScaleSpec Rows.fnExactPolScaleRow = true := by kernel_rfl
theorem cf16 : (fun (P : Program) (f : FuncId) (fn : Func) (s : ChangeSpec) (c : OpenClaim) => ((c.loops == (fn.params.toList ++ s.plain.varTypes P).any (P.loopsFrom ·)) : Bool)) Try.prog 19 Try.f19 Rows.fnExactPolScaleSpec Rows.fnExactPolScaleRow = true := by kernel_rfl
theorem cf17 : (fun (P : Program) (f : FuncId) (fn : Func) (s : ChangeSpec) (c : OpenClaim) => ((c.wideKeys == (fn.params.toList ++ s.plain.varTypes P ++ fn.resultTypes.toList).any (P.wideKeysFrom ·)) : Bool)) Try.prog 19 Try.f19 Rows.fnExactPolScaleSpec Rows.fnExactPolScaleRow = true := by kernel_rfl
theorem cf18 : (fun (P : Program) (f : FuncId) (fn : Func) (s : ChangeSpec) (c : OpenClaim) => (s.vars.all (P.varReadable ·) : Bool)) Try.prog 19 Try.f19 Rows.fnExactPolScaleSpec Rows.fnExactPolScaleRow = true := by kernel_rfl
theorem cf19 : (fun (P : Program) (f : FuncId) (fn : Func) (s : ChangeSpec) (c : OpenClaim) => (fn.resultTypes.all (fun t => P.readableRec t && decide (t < P.types.size)) : Bool)) Try.prog 19 Try.f19 Rows.fnExactPolScaleSpec Rows.fnExactPolScaleRow = true := by kernel_rfl
theorem cf20 : (fun (P : Program) (f : FuncId) (fn : Func) (s : ChangeSpec) (c : OpenClaim) => ((c.ifacesOut == fn.resultTypes.toList.any (P.ifacesRec ·)) : Bool)) Try.prog 19 Try.f19 Rows.fnExactPolScaleSpec Rows.fnExactPolScaleRow = true := by kernel_rfl
theorem cf21 : (fun (P : Program) (f : FuncId) (fn : Func) (s : ChangeSpec) (c : OpenClaim) => ((c.loopsOut == fn.resultTypes.toList.any (P.loopsFrom ·)) : Bool)) Try.prog 19 Try.f19 Rows.fnExactPolScaleSpec Rows.fnExactPolScaleRow = true := by kernel_rfl
theorem cf23 : (fun (P : Program) (f : FuncId) (fn : Func) (s : ChangeSpec) (c : OpenClaim) => (c.shortTexts.isNone : Bool)) Try.prog 19 Try.f19 Rows.fnExactPolScaleSpec Rows.fnExactPolScaleRow = true := by kernel_rfl
theorem cf28 : (fun (P : Program) (f : FuncId) (fn : Func) (s : ChangeSpec) (c : OpenClaim) => ((c.kinds == (if c.domain.isEmpty then [] else fn.params.toList.map fun t => match P.underlying t with | some (.int k) => some k | _ => none)) : Bool)) Try.prog 19 Try.f19 Rows.fnExactPolScaleSpec Rows.fnExactPolScaleRow = true := by kernel_rfl
theorem cf29 : (fun (P : Program) (f : FuncId) (fn : Func) (s : ChangeSpec) (c : OpenClaim) => ((c.pinned == c.pinnedBy) : Bool)) Try.prog 19 Try.f19 Rows.fnExactPolScaleSpec Rows.fnExactPolScaleRow = true := by kernel_rfl
theorem cf30 : (fun (P : Program) (f : FuncId) (fn : Func) (s : ChangeSpec) (c : OpenClaim) => ((c.veiled == (fn.params.toList ++ s.plain.varTypes P ++ fn.resultTypes.toList).any (P.veiledRec ·)) : Bool)) Try.prog 19 Try.f19 Rows.fnExactPolScaleSpec Rows.fnExactPolScaleRow = true := by kernel_rfl
theorem cf31 : (fun (P : Program) (f : FuncId) (fn : Func) (s : ChangeSpec) (c : OpenClaim) => (c.veiledFits P fn.params.toList (fn.params.toList ++ s.plain.varTypes P ++ fn.resultTypes.toList) : Bool)) Try.prog 19 Try.f19 Rows.fnExactPolScaleSpec Rows.fnExactPolScaleRow = true := by kernel_rfl

set_option maxRecDepth 100000 in
theorem closed : joinedFacts Try.prog 19 Try.f19 Rows.fnExactPolScaleSpec Rows.fnExactPolScaleRow = true := by
  unfold joinedFacts
  exact (band (band (band (band (band (band (band (band (band (band (band (band (band (band (band (band (band (band (band (band (band (band (band (band (band (band (band (band (band (band (band cf0 pf1) pf2) cf3) cf4) cf5) pf6) cf7) pf8) cf9) cf10) cf11) cf12) cf13) cf14) cf15) cf16) cf17) cf18) cf19) cf20) cf21) pf22) cf23) pf24) pf25) pf26) pf27) cf28) cf29) cf30) cf31)
theorem inst : Try.f19.isInstance Try.prog Rows.fnExactPolScaleRow.origin Rows.fnExactPolScaleRow.targs := of_decide_eq_true (by kernel_rfl)
theorem wrap_ : Try.f19.isWrapper Try.prog Rows.fnExactPolScaleRow.wrapper Rows.fnExactPolScaleRow.mainSum := by
  unfold Func.isWrapper
  rw [if_neg (by decide +kernel)]
  exact ⟨rfl, rfl⟩

theorem over : Rows.fnExactPolScaleRow.holds Try.pinned (OpenSpec.ofChange Rows.fnExactPolScaleSpec) :=
  OpenClaim.holds_of_wide 19 Try.f19 rfl rfl rfl rfl rfl rfl rfl ⟨rfl, rfl, rfl, rfl, rfl⟩ rfl rfl rfl rfl rfl (by as_aux_lemma => kernel_rfl) Try.func19 closed inst wrap_
    (fun os started H enc _ => lifted os started H enc)

theorem proved : Rows.FnExactPolScaleSaid := over
#print axioms proved
end Go.Proofs.Ytmlegiifceangaa.fnExactPolScale
