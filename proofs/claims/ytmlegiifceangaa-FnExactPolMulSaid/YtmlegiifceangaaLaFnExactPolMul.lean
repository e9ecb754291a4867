/- The law FnExactPolMul: PolMul returns what the reference's PolMul returns, for every two sums, in memory of its own, and leaves them as they are. Conditions: none. -/
import Derived.Test.YtmlegiifceangaaRows
import Derived.WalkKit
import Derived.ProofKit
import Derived.OpenShut
import Derived.ShutString
import Derived.ChangeOld
import Derived.Below
import Derived.Carry
import Derived.Test.YtmlegiifceangaaF
import Derived.Test.YtmlegiifceangaaK
import Derived.Test.YtmlegiifceangaaZ8
import Derived.Test.YtmlegiifceangaaE
import Derived.Test.YtmlegiifceangaaH
import Derived.Deep.RegionHeld3
import Derived.Deep.DeepCutAuto
namespace Go.Proofs.Ytmlegiifceangaa.fnExactPolMul
open Go.ChangeShapes Go.WideShapes Go.ChangeAt Go.RowKit
set_option linter.unusedVariables false
set_option linter.unusedSimpArgs false

theorem bcell_ {W w1 : World} (hb : Ext W w1) : (∀ b o, b < W.heap.size → w1.cell? ⟨b, o, none⟩ = W.cell? ⟨b, o, none⟩) ∧ (∀ b o, b < W.heap.size → w1.frozen? ⟨b, o, none⟩ = W.frozen? ⟨b, o, none⟩) :=
  ⟨fun b o h => hb.cell (p := ⟨b, o, none⟩) h, fun b o h => hb.frozen (p := ⟨b, o, none⟩) h⟩
theorem tot_ok {d : List Mono} (h : polOk d = true) {ms : List Mn} (e : ms.map Mn.dat = d) : totM ms ≤ 100 := by
  subst e
  obtain ⟨h1, h2, _⟩ := ok_small h
  have : ∀ l : List Mn, (∀ m ∈ l, m.xs.length ≤ 4) → (l.map fun m => m.xs.length).sum ≤ 4 * l.length := fun l => by
    induction l with
    | nil => intro _; simp
    | cons a l ih =>
      intro hl
      have := ih fun m hm => hl m (List.mem_cons_of_mem _ hm)
      have := hl a List.mem_cons_self
      simp only [List.map_cons, List.sum_cons, List.length_cons]
      omega
  have := this ms h2
  unfold totM
  omega

set_option maxRecDepth 100000 in
set_option maxHeartbeats 2000000 in
theorem walk (A0 : Option Addr) (k0 : Nat) (ms0 : List Mn) (A1 : Option Addr) (k1 : Nat) (ms1 : List Mn) (w : World) (h0 : AM w A0 ms0) (s0 : SzA ms0) (h1 : AM w A1 ms1) (s1 : SzA ms1) :
    Calls Try.prog 20 #[.agg #[.slice A0 ms0.length k0], .agg #[.slice A1 ms1.length k1]] w fun e w' => e = .returned (.bool true) ∧ Ext w w' := by
  by_cases hq : (1048576 : Int) < totM ms0
  · have e1 := hid (szF_lt hq)
    have hb : szF 1048576 (totM ms0) < 0 := by rw [szF_lt hq]; omega
    go_enter Try.func20, Try.ntmps20
    go_wp2_with fail
    refine (szPoly _ _ _ _ _ (h0.ext (by repeat (first | with_reducible assumption | with_reducible exact Ext.refl _ | with_reducible apply Ext.drewN | with_reducible apply Ext.drew | with_reducible apply Ext.alloc | with_reducible refine Ext.set ?_ (by first | (simp; done) | (simp; omega)) _ | with_reducible refine Ext.next ?_ (by with_reducible assumption)))) s0 (by omega) (by omega)).mono ?_
    rintro e w2 ⟨rfl, hw2⟩
    go_wp2
    go_ret
    exact ⟨rfl, (by repeat (first | with_reducible assumption | with_reducible exact Ext.refl _ | with_reducible apply Ext.drewN | with_reducible apply Ext.drew | with_reducible apply Ext.alloc | with_reducible refine Ext.set ?_ (by first | (simp; done) | (simp; omega)) _ | with_reducible refine Ext.next ?_ (by with_reducible assumption)))⟩
  have hb : 0 ≤ szF 1048576 (totM ms0) := by rw [szF_ge (by omega)]; omega
  have hb' : szF 1048576 (totM ms0) ≤ 1048576 := by rw [szF_ge (by omega)]; omega
  have ht0 : totM ms0 ≤ 1048576 := by omega
  obtain ⟨hn0, hx0⟩ := tot_one ht0
  by_cases hr : szF 1048576 (totM ms0) < totM ms1
  · have hc : szF (szF 1048576 (totM ms0)) (totM ms1) < 0 := by rw [szF_lt hr]; omega
    clear hq hr
    go_enter Try.func20, Try.ntmps20
    go_wp2_with fail
    refine (szPoly _ _ _ _ _ (h0.ext (by repeat (first | with_reducible assumption | with_reducible exact Ext.refl _ | with_reducible apply Ext.drewN | with_reducible apply Ext.drew | with_reducible apply Ext.alloc | with_reducible refine Ext.set ?_ (by first | (simp; done) | (simp; omega)) _ | with_reducible refine Ext.next ?_ (by with_reducible assumption)))) s0 (by omega) (by omega)).mono ?_
    rintro e w2 ⟨rfl, hw2⟩
    have c2 : w2.cell? ⟨w.heap.size + 1, 0, none⟩ = some (.slice A1 ms1.length k1) := keep hw2 (by go_simp)
    go_wp2_with fail
    refine (szPoly _ _ _ _ _ (h1.ext (by repeat (first | with_reducible assumption | with_reducible exact Ext.refl _ | with_reducible apply Ext.drewN | with_reducible apply Ext.drew | with_reducible apply Ext.alloc | with_reducible refine Ext.set ?_ (by first | (simp; done) | (simp; omega)) _ | with_reducible refine Ext.next ?_ (by with_reducible assumption)))) s1 hb hb').mono ?_
    rintro e w3 ⟨rfl, hw3⟩
    go_wp2
    go_ret
    exact ⟨rfl, (by repeat (first | with_reducible assumption | with_reducible exact Ext.refl _ | with_reducible apply Ext.drewN | with_reducible apply Ext.drew | with_reducible apply Ext.alloc | with_reducible refine Ext.set ?_ (by first | (simp; done) | (simp; omega)) _ | with_reducible refine Ext.next ?_ (by with_reducible assumption)))⟩
  have hc : 0 ≤ szF (szF 1048576 (totM ms0)) (totM ms1) := by rw [szF_ge (by omega)]; omega
  have ht1 : totM ms1 ≤ 1048576 := by omega
  obtain ⟨hn1, hx1⟩ := tot_one ht1
  obtain ⟨bb, hbb⟩ : ∃ b : Bool, b = (polMul (ms0.map Mn.dat) (ms1.map Mn.dat)).2 := ⟨_, rfl⟩
  obtain ⟨dd, hdd⟩ : ∃ d : List Mono, d = (polMul (ms0.map Mn.dat) (ms1.map Mn.dat)).1 := ⟨_, rfl⟩
  have HTD : Hid (∀ ms : List Mn, ms.map Mn.dat = dd → totM ms ≤ 100) := hid fun ms e => tot_ok (polOk_polMul (ms0.map Mn.dat) (ms1.map Mn.dat)) (e.trans hdd)
  have HBB := hid hbb
  have HDD := hid hdd
  have hbq : (bb != bb) = false := by simp
  clear hq hr hbb hdd
  go_enter Try.func20, Try.ntmps20
  go_wp2_with fail
  refine (szPoly _ _ _ _ _ (h0.ext (by repeat (first | with_reducible assumption | with_reducible exact Ext.refl _ | with_reducible apply Ext.drewN | with_reducible apply Ext.drew | with_reducible apply Ext.alloc | with_reducible refine Ext.set ?_ (by first | (simp; done) | (simp; omega)) _ | with_reducible refine Ext.next ?_ (by with_reducible assumption)))) s0 (by omega) (by omega)).mono ?_
  rintro e w2 ⟨rfl, hw2⟩
  have c0 : w2.cell? ⟨w.heap.size, 0, none⟩ = some (.slice A0 ms0.length k0) := keep hw2 (by go_simp)
  have c1 : w2.cell? ⟨w.heap.size + 1, 0, none⟩ = some (.slice A1 ms1.length k1) := keep hw2 (by go_simp)
  go_wp2_with fail
  refine (szPoly _ _ _ _ _ (h1.ext (by repeat (first | with_reducible assumption | with_reducible exact Ext.refl _ | with_reducible apply Ext.drewN | with_reducible apply Ext.drew | with_reducible apply Ext.alloc | with_reducible refine Ext.set ?_ (by first | (simp; done) | (simp; omega)) _ | with_reducible refine Ext.next ?_ (by with_reducible assumption)))) s1 hb hb').mono ?_
  rintro e w3 ⟨rfl, hw3⟩
  have d0 := keep hw3 c0
  have d1 := keep hw3 c1
  have l3 := World.block_lt_of_cell? _ _ d1
  simp only at l3
  have hx3 : Ext w w3 := (by repeat (first | with_reducible assumption | with_reducible exact Ext.refl _ | with_reducible apply Ext.drewN | with_reducible apply Ext.drew | with_reducible apply Ext.alloc | with_reducible refine Ext.set ?_ (by first | (simp; done) | (simp; omega)) _ | with_reducible refine Ext.next ?_ (by with_reducible assumption)))
  clear c0 c1 hb hb' hw2 hw3
  go_upto_region 8 with fail
  go_cut [6, 7] (fun u v wx => ∃ (p : Nat) (A : Option Addr) (k : Nat) (ms : List Mn), u = .pointer (some ⟨p, 0, none⟩) ∧ v = .bool bb ∧ wx.cell? ⟨p, 0, none⟩ = some (.slice A ms.length k) ∧ ms.map Mn.dat = dd ∧ RM 86 3 wx A ms ∧ w3.heap.size ≤ p ∧ Ext w3 wx)
  case first =>
    go_wp2
    go_region_held3 (fun w' => w'.cell? ⟨w.heap.size, 0, none⟩ = some (.slice A0 ms0.length k0) ∧ w'.cell? ⟨w.heap.size + 1, 0, none⟩ = some (.slice A1 ms1.length k1)) (first | (refine ⟨?_, ?_⟩ <;> ((repeat (first | with_reducible assumption | with_reducible refine keep (Ext.alloc (Ext.refl _) _) ?_ | with_reducible refine keep (Ext.drew (Ext.refl _)) ?_ | with_reducible refine keep (Ext.drewN (Ext.refl _) _) ?_ | with_reducible refine keep (by with_reducible assumption) ?_)); done)) | (go_split_ands; (refine ⟨?_, ?_⟩ <;> (rw [World.cell?_setCell_far _ _ _ _ (by simp; omega)]; ((repeat (first | with_reducible assumption | with_reducible refine keep (Ext.alloc (Ext.refl _) _) ?_ | with_reducible refine keep (Ext.drew (Ext.refl _)) ?_ | with_reducible refine keep (Ext.drewN (Ext.refl _) _) ?_ | with_reducible refine keep (by with_reducible assumption) ?_)); done))))) (first | (go_at_call_of 51 (Value.agg #[Value.slice A0 ms0.length k0]); refine (toPoly _ _ _ _ (h0.ext (by repeat (first | with_reducible assumption | with_reducible exact Ext.refl _ | with_reducible apply Ext.drewN | with_reducible apply Ext.drew | with_reducible apply Ext.alloc | with_reducible refine Ext.set ?_ (by first | (simp; done) | (simp; omega)) _ | with_reducible refine Ext.next ?_ (by with_reducible assumption)))) hn0 hx0).mono ?_; rintro e w4 ⟨A4, k4, ms4, rfl, hd4, ho4, hw4⟩; have HD4 := hid hd4; clear hd4; (obtain ⟨hc4, hf4⟩ := bcell_ hw4); (have hs4 := hw4.size); (try simp at hs4); (try (have lt34 : w3.heap.size < w4.heap.size := Nat.lt_of_lt_of_le (Nat.lt_succ_self _) hs4)); (try (have lt34 : w3.heap.size < w4.heap.size := Nat.lt_of_lt_of_le lt35 hs4)); (try (have lt54 : w5.heap.size < w4.heap.size := Nat.lt_of_lt_of_le (Nat.lt_succ_self _) hs4)); (try (have lt54 : w5.heap.size < w4.heap.size := Nat.lt_of_lt_of_le lt55 hs4))) | (go_at_call_of 51 (Value.agg #[Value.slice A1 ms1.length k1]); refine (toPoly _ _ _ _ (h1.ext (by repeat (first | with_reducible assumption | with_reducible exact Ext.refl _ | with_reducible apply Ext.drewN | with_reducible apply Ext.drew | with_reducible apply Ext.alloc | with_reducible refine Ext.set ?_ (by first | (simp; done) | (simp; omega)) _ | with_reducible refine Ext.next ?_ (by with_reducible assumption)))) hn1 hx1).mono ?_; rintro e w5 ⟨A5, k5, ms5, rfl, hd5, ho5, hw5⟩; have HD5 := hid hd5; clear hd5; (obtain ⟨hc5, hf5⟩ := bcell_ hw5); (have hs5 := hw5.size); (try simp at hs5); (try (have lt35 : w3.heap.size < w5.heap.size := Nat.lt_of_lt_of_le (Nat.lt_succ_self _) hs5)); (try (have lt35 : w3.heap.size < w5.heap.size := Nat.lt_of_lt_of_le lt34 hs5)); (try (have lt45 : w4.heap.size < w5.heap.size := Nat.lt_of_lt_of_le (Nat.lt_succ_self _) hs5)); (try (have lt45 : w4.heap.size < w5.heap.size := Nat.lt_of_lt_of_le lt44 hs5))) | (go_at_call 27; refine (specPolMul _ _ _ _ ms4 ms5 _ (ho4.rn.ext (by repeat (first | with_reducible assumption | with_reducible exact Ext.refl _ | with_reducible apply Ext.drewN | with_reducible apply Ext.drew | with_reducible apply Ext.alloc | with_reducible refine Ext.set ?_ (by first | (simp; done) | (simp; omega)) _ | with_reducible refine Ext.next ?_ (by with_reducible assumption)))) (ho5.rn.ext (by repeat (first | with_reducible assumption | with_reducible exact Ext.refl _ | with_reducible apply Ext.drewN | with_reducible apply Ext.drew | with_reducible apply Ext.alloc | with_reducible refine Ext.set ?_ (by first | (simp; done) | (simp; omega)) _ | with_reducible refine Ext.next ?_ (by with_reducible assumption)))) (SzM.of_dat HD4.out ht0) (SzM.of_dat HD5.out ht1)).mono ?_; rintro e w6 ⟨A6, k6, ms6, rfl, hd6, ho6, hw6⟩; have HD6 := hid hd6; clear hd6; (obtain ⟨hc6, hf6⟩ := bcell_ hw6); (have hs6 := hw6.size); (try simp at hs6); (try (have lt36 : w3.heap.size < w6.heap.size := Nat.lt_of_lt_of_le (Nat.lt_succ_self _) hs6)); (try (have lt36 : w3.heap.size < w6.heap.size := Nat.lt_of_lt_of_le lt34 hs6)); (try (have lt36 : w3.heap.size < w6.heap.size := Nat.lt_of_lt_of_le lt35 hs6)); (try (have lt46 : w4.heap.size < w6.heap.size := Nat.lt_of_lt_of_le (Nat.lt_succ_self _) hs6)); (try (have lt46 : w4.heap.size < w6.heap.size := Nat.lt_of_lt_of_le lt44 hs6)); (try (have lt46 : w4.heap.size < w6.heap.size := Nat.lt_of_lt_of_le lt45 hs6)); (try (have lt56 : w5.heap.size < w6.heap.size := Nat.lt_of_lt_of_le (Nat.lt_succ_self _) hs6)); (try (have lt56 : w5.heap.size < w6.heap.size := Nat.lt_of_lt_of_le lt54 hs6)); (try (have lt56 : w5.heap.size < w6.heap.size := Nat.lt_of_lt_of_le lt55 hs6))))
    all_goals
      have HB : Hid (polMul (ms4.map Mn.dat) (ms5.map Mn.dat) = polMul (ms0.map Mn.dat) (ms1.map Mn.dat)) := hid (by rw [HD4.out, HD5.out])
      have HO := hid ho6
      go_wp2
      go_meet
      refine ⟨_, A6, k6, ms6, rfl, by rw [HBB.out, HB.out], ?_, by rw [HD6.out, HB.out, HDD.out], ?_, ?_, ?_⟩
      · go_simp
      · first | (refine (HO.out.set ?_ _).rm; (first | (simp; done) | (simp; omega) | omega)) | (refine (HO.out.ext ?_).rm; exact (by repeat (first | with_reducible assumption | with_reducible exact Ext.refl _ | with_reducible apply Ext.drewN | with_reducible apply Ext.drew | with_reducible apply Ext.alloc | with_reducible refine Ext.set ?_ (by first | (simp; done) | (simp; omega)) _ | with_reducible refine Ext.next ?_ (by with_reducible assumption))))
      · first | (simp; done) | omega | (simp; omega)
      · exact (by repeat (first | with_reducible assumption | with_reducible exact Ext.refl _ | with_reducible apply Ext.drewN | with_reducible apply Ext.drew | with_reducible apply Ext.alloc | with_reducible refine Ext.set ?_ (by first | (simp; done) | (simp; omega)) _ | with_reducible refine Ext.next ?_ (by with_reducible assumption)))
  case rest =>
    obtain ⟨p, Ap, kp, msp, rfl, rfl, cp, hdp, hrp, hpl, hwp⟩ := hcut
    have HDP := hid hdp
    have e0 := keep hwp d0
    have e1 := keep hwp d1
    have hxc := hx3.next hwp
    have lp := World.block_lt_of_cell? _ _ cp
    simp only at lp
    have lc := lt_ext hwp l3
    clear hdp d0 d1 hwp
    go_wp2_with fail
    refine (toPoly _ _ _ _ (h0.ext (by repeat (first | with_reducible assumption | with_reducible exact Ext.refl _ | with_reducible apply Ext.drewN | with_reducible apply Ext.drew | with_reducible apply Ext.alloc | with_reducible refine Ext.set ?_ (by first | (simp; done) | (simp; omega)) _ | with_reducible refine Ext.next ?_ (by with_reducible assumption)))) hn0 hx0).mono ?_
    rintro e w7 ⟨A7, k7, ms7, rfl, hd7, ho7, hw7⟩
    have HD7 := hid hd7
    have hs7 := SzM.of_dat hd7 ht0
    clear hd7
    have g1 : w7.cell? ⟨w.heap.size + 1, 0, none⟩ = some (.slice A1 ms1.length k1) := keep hw7 e1
    have l7 := World.block_lt_of_cell? _ _ g1
    simp only at l7
    go_wp2_with fail
    refine (toPoly _ _ _ _ (h1.ext (by repeat (first | with_reducible assumption | with_reducible exact Ext.refl _ | with_reducible apply Ext.drewN | with_reducible apply Ext.drew | with_reducible apply Ext.alloc | with_reducible refine Ext.set ?_ (by first | (simp; done) | (simp; omega)) _ | with_reducible refine Ext.next ?_ (by with_reducible assumption)))) hn1 hx1).mono ?_
    rintro e w8 ⟨A8, k8, ms8, rfl, hd8, ho8, hw8⟩
    have HD8 := hid hd8
    have hs8 := SzM.of_dat hd8 ht1
    clear hd8
    have b7 : w8.cell? ⟨w7.heap.size, 0, none⟩ = some (.slice A7 ms7.length k7) := keep hw8 (by go_simp)
    have l8 := World.block_lt_of_cell? _ _ b7
    simp only at l8
    have hx78 : Ext w7 w8 := (by repeat (first | with_reducible assumption | with_reducible exact Ext.refl _ | with_reducible apply Ext.drewN | with_reducible apply Ext.drew | with_reducible apply Ext.alloc | with_reducible refine Ext.set ?_ (by first | (simp; done) | (simp; omega)) _ | with_reducible refine Ext.next ?_ (by with_reducible assumption)))
    have hx8 : Ext wc w8 := (by repeat (first | with_reducible assumption | with_reducible exact Ext.refl _ | with_reducible apply Ext.drewN | with_reducible apply Ext.drew | with_reducible apply Ext.alloc | with_reducible refine Ext.set ?_ (by first | (simp; done) | (simp; omega)) _ | with_reducible refine Ext.next ?_ (by with_reducible assumption)))
    have hs78 := hw7.size
    clear g1
    go_wp2_with fail
    refine (implPolMul _ _ _ _ ms7 ms8 _ (ho7.rn.ext (by repeat (first | with_reducible assumption | with_reducible exact Ext.refl _ | with_reducible apply Ext.drewN | with_reducible apply Ext.drew | with_reducible apply Ext.alloc | with_reducible refine Ext.set ?_ (by first | (simp; done) | (simp; omega)) _ | with_reducible refine Ext.next ?_ (by with_reducible assumption)))) (ho8.rn.ext (by repeat (first | with_reducible assumption | with_reducible exact Ext.refl _ | with_reducible apply Ext.drewN | with_reducible apply Ext.drew | with_reducible apply Ext.alloc | with_reducible refine Ext.set ?_ (by first | (simp; done) | (simp; omega)) _ | with_reducible refine Ext.next ?_ (by with_reducible assumption)))) hs7 hs8).mono ?_
    rintro e w9 ⟨A9, k9, ms9, rfl, hd9, ho9, hw9⟩
    have HB9 : Hid ((polMul (ms7.map Mn.dat) (ms8.map Mn.dat)).2 = bb) := hid (by rw [HD7.out, HD8.out, HBB.out])
    have HD9 : Hid (ms9.map Mn.dat = dd) := hid (by rw [hd9, HD7.out, HD8.out, HDD.out])
    rw [HB9.out]
    have ht9 := HTD.out ms9 HD9.out
    have htp := HTD.out msp HDP.out
    have ht7 : totM ms7 ≤ 1048576 := by rw [tot_dat HD7.out]; exact ht0
    have ht8 : totM ms8 ≤ 1048576 := by rw [tot_dat HD8.out]; exact ht1
    have hx9 : Ext w8 w9 := (by repeat (first | with_reducible assumption | with_reducible exact Ext.refl _ | with_reducible apply Ext.drewN | with_reducible apply Ext.drew | with_reducible apply Ext.alloc | with_reducible refine Ext.set ?_ (by first | (simp; done) | (simp; omega)) _ | with_reducible refine Ext.next ?_ (by with_reducible assumption)))
    have hx9c := hx8.next hx9
    have i0 := keep hx9c e0
    have i1 := keep hx9c e1
    have ip := keep hx9c cp
    have i7 := keep hx9 b7
    have i8 : w9.cell? ⟨w8.heap.size, 0, none⟩ = some (.slice A8 ms8.length k8) := keep hw9 (by go_simp)
    have m0 := lt_ext hx9c lc
    have m7 := lt_ext hx9 l8
    have m8 := World.block_lt_of_cell? _ _ i8
    simp only at m8
    have mp := lt_ext hx9c lp
    have hn9 : ms9.length < 4611686018427387904 := by unfold totM at ht9; omega
    have hnp : msp.length < 4611686018427387904 := by unfold totM at htp; omega
    clear e0 e1 cp b7 hd9
    go_wp2_with fail
    refine (eqPoly _ _ _ _ _ _ ms9 msp _ (ho9.rm.ext (by repeat (first | with_reducible assumption | with_reducible exact Ext.refl _ | with_reducible apply Ext.drewN | with_reducible apply Ext.drew | with_reducible apply Ext.alloc | with_reducible refine Ext.set ?_ (by first | (simp; done) | (simp; omega)) _ | with_reducible refine Ext.next ?_ (by with_reducible assumption)))) (hrp.ext (by repeat (first | with_reducible assumption | with_reducible exact Ext.refl _ | with_reducible apply Ext.drewN | with_reducible apply Ext.drew | with_reducible apply Ext.alloc | with_reducible refine Ext.set ?_ (by first | (simp; done) | (simp; omega)) _ | with_reducible refine Ext.next ?_ (by with_reducible assumption)))) (HD9.out.trans HDP.out.symm) rfl rfl (SzM.of_tot (by omega))).mono ?_
    rintro e w10 ⟨rfl, hw10⟩
    have jg : w10.cell? ⟨w9.heap.size, 0, none⟩ = some (.slice A9 ms9.length k9) := keep hw10 (by go_simp)
    have hx10 : Ext w9 w10 := (by repeat (first | with_reducible assumption | with_reducible exact Ext.refl _ | with_reducible apply Ext.drewN | with_reducible apply Ext.drew | with_reducible apply Ext.alloc | with_reducible refine Ext.set ?_ (by first | (simp; done) | (simp; omega)) _ | with_reducible refine Ext.next ?_ (by with_reducible assumption)))
    have hx810 := hx9.next hx10
    have hx710 := hx78.next hx810
    have j0 := keep hx10 i0
    have j1 := keep hx10 i1
    have jp := keep hx10 ip
    have j7 := keep hx10 i7
    have j8 := keep hx10 i8
    clear i0 i1 ip i7 i8
    go_wp2
    go_region_held3 (fun w' => w'.cell? ⟨w.heap.size, 0, none⟩ = some (.slice A0 ms0.length k0) ∧ w'.cell? ⟨w7.heap.size, 0, none⟩ = some (.slice A7 ms7.length k7)) (refine ⟨?_, ?_⟩ <;> ((repeat (first | with_reducible assumption | with_reducible refine keep (Ext.alloc (Ext.refl _) _) ?_ | with_reducible refine keep (Ext.drew (Ext.refl _)) ?_ | with_reducible refine keep (Ext.drewN (Ext.refl _) _) ?_ | with_reducible refine keep (by with_reducible assumption) ?_)); done)) (first | (go_at_call_of 51 (Value.agg #[Value.slice A0 ms0.length k0]); refine (toPoly _ _ _ _ (h0.ext (by repeat (first | with_reducible assumption | with_reducible exact Ext.refl _ | with_reducible apply Ext.drewN | with_reducible apply Ext.drew | with_reducible apply Ext.alloc | with_reducible refine Ext.set ?_ (by first | (simp; done) | (simp; omega)) _ | with_reducible refine Ext.next ?_ (by with_reducible assumption)))) hn0 hx0).mono ?_; rintro e w11 ⟨A11, k11, ms11, rfl, hd11, ho11, hw11⟩; have HD11 := hid hd11; clear hd11) | (go_at_call_of 42 (Value.agg #[Value.slice A7 ms7.length k7]); refine (eqPoly _ _ _ _ _ _ ms7 ms11 _ (ho7.rm.ext (by repeat (first | with_reducible assumption | with_reducible exact Ext.refl _ | with_reducible apply Ext.drewN | with_reducible apply Ext.drew | with_reducible apply Ext.alloc | with_reducible refine Ext.set ?_ (by first | (simp; done) | (simp; omega)) _ | with_reducible refine Ext.next ?_ (by with_reducible assumption)))) (ho11.rm.ext (by repeat (first | with_reducible assumption | with_reducible exact Ext.refl _ | with_reducible apply Ext.drewN | with_reducible apply Ext.drew | with_reducible apply Ext.alloc | with_reducible refine Ext.set ?_ (by first | (simp; done) | (simp; omega)) _ | with_reducible refine Ext.next ?_ (by with_reducible assumption)))) (HD7.out.trans HD11.out.symm) rfl rfl hs7).mono ?_; rintro e w12 ⟨rfl, hw12⟩))
    have hx12 : Ext w10 w12 := (by repeat (first | with_reducible assumption | with_reducible exact Ext.refl _ | with_reducible apply Ext.drewN | with_reducible apply Ext.drew | with_reducible apply Ext.alloc | with_reducible refine Ext.set ?_ (by first | (simp; done) | (simp; omega)) _ | with_reducible refine Ext.next ?_ (by with_reducible assumption)))
    have hx812 := hx810.next hx12
    have hx712 := hx710.next hx12
    have n0 := keep hx12 j0
    have n1 := keep hx12 j1
    have np := keep hx12 jp
    have n7 := keep hx12 j7
    have n8 := keep hx12 j8
    have ng := keep hx12 jg
    clear j0 j1 jp j7 j8 jg
    go_wp2
    go_region_held3 (fun w' => w'.cell? ⟨w.heap.size + 1, 0, none⟩ = some (.slice A1 ms1.length k1) ∧ w'.cell? ⟨w8.heap.size, 0, none⟩ = some (.slice A8 ms8.length k8)) (refine ⟨?_, ?_⟩ <;> ((repeat (first | with_reducible assumption | with_reducible refine keep (Ext.alloc (Ext.refl _) _) ?_ | with_reducible refine keep (Ext.drew (Ext.refl _)) ?_ | with_reducible refine keep (Ext.drewN (Ext.refl _) _) ?_ | with_reducible refine keep (by with_reducible assumption) ?_)); done)) (first | (go_at_call_of 51 (Value.agg #[Value.slice A1 ms1.length k1]); refine (toPoly _ _ _ _ (h1.ext (by repeat (first | with_reducible assumption | with_reducible exact Ext.refl _ | with_reducible apply Ext.drewN | with_reducible apply Ext.drew | with_reducible apply Ext.alloc | with_reducible refine Ext.set ?_ (by first | (simp; done) | (simp; omega)) _ | with_reducible refine Ext.next ?_ (by with_reducible assumption)))) hn1 hx1).mono ?_; rintro e w13 ⟨A13, k13, ms13, rfl, hd13, ho13, hw13⟩; have HD13 := hid hd13; clear hd13) | (go_at_call_of 42 (Value.agg #[Value.slice A8 ms8.length k8]); refine (eqPoly _ _ _ _ _ _ ms8 ms13 _ (ho8.rm.ext (by repeat (first | with_reducible assumption | with_reducible exact Ext.refl _ | with_reducible apply Ext.drewN | with_reducible apply Ext.drew | with_reducible apply Ext.alloc | with_reducible refine Ext.set ?_ (by first | (simp; done) | (simp; omega)) _ | with_reducible refine Ext.next ?_ (by with_reducible assumption)))) (ho13.rm.ext (by repeat (first | with_reducible assumption | with_reducible exact Ext.refl _ | with_reducible apply Ext.drewN | with_reducible apply Ext.drew | with_reducible apply Ext.alloc | with_reducible refine Ext.set ?_ (by first | (simp; done) | (simp; omega)) _ | with_reducible refine Ext.next ?_ (by with_reducible assumption)))) (HD8.out.trans HD13.out.symm) rfl rfl hs8).mono ?_; rintro e w14 ⟨rfl, hw14⟩))
    have hx14 : Ext w12 w14 := (by repeat (first | with_reducible assumption | with_reducible exact Ext.refl _ | with_reducible apply Ext.drewN | with_reducible apply Ext.drew | with_reducible apply Ext.alloc | with_reducible refine Ext.set ?_ (by first | (simp; done) | (simp; omega)) _ | with_reducible refine Ext.next ?_ (by with_reducible assumption)))
    have q0 := keep hx14 n0
    have q1 := keep hx14 n1
    have qp := keep hx14 np
    have q7 := keep hx14 n7
    have q8 := keep hx14 n8
    have qg := keep hx14 ng
    have hx914 : Ext w9 w14 := (hx10.next hx12).next hx14
    have hx814 := hx9.next hx914
    have hx714 := hx78.next hx814
    clear n0 n1 np n7 n8 ng
    have z7 := lt_ext hx914 m7
    have z8 := lt_ext hx914 m8
    have hxc14 : Ext wc w14 := hx9c.next hx914
    have hxw14 : Ext w w14 := hxc.next hxc14
    have hfo7 : ∀ b, foot A7 ms7 b → wc.heap.size ≤ b ∧ b < w7.heap.size := fun b hb => ho7.foot_ hb
    have hfo8 : ∀ b, foot A8 ms8 b → w7.heap.size + 1 ≤ b ∧ b < w8.heap.size := fun b hb => by have := ho8.foot_ hb; simp at this; omega
    have hfo9 : ∀ b, foot A9 ms9 b → w8.heap.size + 1 ≤ b ∧ b < w9.heap.size := fun b hb => by have := ho9.foot_ hb; simp at this; omega
    go_wp2_with fail
    refine (markPoly _ _ _ _ _ _ (ho7.ext (by repeat (first | with_reducible assumption | with_reducible exact Ext.refl _ | with_reducible apply Ext.drewN | with_reducible apply Ext.drew | with_reducible apply Ext.alloc | with_reducible refine Ext.set ?_ (by first | (simp; done) | (simp; omega)) _ | with_reducible refine Ext.next ?_ (by with_reducible assumption)))) (by omega) (by omega)).mono ?_
    rintro e w15 ⟨rfl, _, hu15⟩
    have q8' : w15.cell? ⟨w8.heap.size, 0, none⟩ = some (.slice A8 ms8.length k8) := (hu15.cell (p := ⟨w8.heap.size, 0, none⟩) (by simp only; omega) (fun hb => by have := hfo7 _ hb; simp only at this; omega)).trans q8
    have ho8' := (ho8.ext (w := w8) (a := w14) (by repeat (first | with_reducible assumption | with_reducible exact Ext.refl _ | with_reducible apply Ext.drewN | with_reducible apply Ext.drew | with_reducible apply Ext.alloc | with_reducible refine Ext.set ?_ (by first | (simp; done) | (simp; omega)) _ | with_reducible refine Ext.next ?_ (by with_reducible assumption)))).upd hu15 (fun b hb hb' => by have := hfo7 b hb'; have := hfo8 b hb; omega)
    go_wp2_with fail
    refine (markPoly _ _ _ _ _ _ ho8' (by omega) (by omega)).mono ?_
    rintro e w16 ⟨rfl, _, hu16⟩
    have U16 : Upd (fun b => wc.heap.size ≤ b ∧ b < w8.heap.size) w14 w16 := (hu15.mono fun b _ hb => by have := hfo7 b hb; omega).next (hu16.mono fun b _ hb => by have := hfo8 b hb; omega)
    have hrp' : RM 86 3 w16 Ap msp := RM.upd_lt hrp hxc14 U16 fun b hb hb' => by omega
    have ho9' : OM 86 3 w16 (w8.heap.size + 1) A9 k9 ms9 := ((ho9.ext hx914).upd U16 (fun b hb hb' => by have := hfo9 b hb; omega)).base (by simp)
    have sz14 := hx914.size
    have t0 : w16.cell? ⟨w.heap.size, 0, none⟩ = some (.slice A0 ms0.length k0) := (U16.cell (p := ⟨w.heap.size, 0, none⟩) (by simp only; omega) (fun hb => by simp only at hb; omega)).trans q0
    have t1 : w16.cell? ⟨w.heap.size + 1, 0, none⟩ = some (.slice A1 ms1.length k1) := (U16.cell (p := ⟨w.heap.size + 1, 0, none⟩) (by simp only; omega) (fun hb => by simp only at hb; omega)).trans q1
    have tp : w16.cell? ⟨p, 0, none⟩ = some (.slice Ap msp.length kp) := (U16.cell (p := ⟨p, 0, none⟩) (by simp only; omega) (fun hb => by simp only at hb; omega)).trans qp
    have lg := World.block_lt_of_cell? _ _ qg
    simp only at lg
    have tg : w16.cell? ⟨w9.heap.size, 0, none⟩ = some (.slice A9 ms9.length k9) := (U16.cell (p := ⟨w9.heap.size, 0, none⟩) (by simp only; omega) (fun hb => by simp only at hb; omega)).trans qg
    have hxw16 : Ext w w16 := ((Upd.of_ext hxw14).next U16).ext fun b hb => by have := hxc.size; omega
    have sz16 := U16.size
    have lg16 := World.block_lt_of_cell? _ _ tg
    simp only at lg16
    have lp16 := World.block_lt_of_cell? _ _ tp
    simp only at lp16
    have hbk : decide ((1 : Int) + (totM ms7 : Int) + (totM ms8 : Int) < 0) = false := by rw [decide_eq_false_iff_not]; omega
    have hbg : decide ((1 : Int) + (totM ms9 : Int) < 0) = false := by rw [decide_eq_false_iff_not]; omega
    have HU16 := hid U16
    have HRP := hid hrp
    clear q0 q1 qp q7 q8 q8' qg hu15 hu16 ho8' U16 hrp ho9 ho7 ho8 hw7 hw8 hw9 hw10
    go_wp2_with fail
    refine (eqPoly _ _ _ _ _ _ ms9 msp _ (ho9'.rm.ext (by repeat (first | with_reducible assumption | with_reducible exact Ext.refl _ | with_reducible apply Ext.drewN | with_reducible apply Ext.drew | with_reducible apply Ext.alloc | with_reducible refine Ext.set ?_ (by first | (simp; done) | (simp; omega)) _ | with_reducible refine Ext.next ?_ (by with_reducible assumption)))) (hrp'.ext (by repeat (first | with_reducible assumption | with_reducible exact Ext.refl _ | with_reducible apply Ext.drewN | with_reducible apply Ext.drew | with_reducible apply Ext.alloc | with_reducible refine Ext.set ?_ (by first | (simp; done) | (simp; omega)) _ | with_reducible refine Ext.next ?_ (by with_reducible assumption)))) (HD9.out.trans HDP.out.symm) rfl rfl (SzM.of_tot (by omega))).mono ?_
    rintro e w17 ⟨rfl, hw17⟩
    have hx17 : Ext w16 w17 := (by repeat (first | with_reducible assumption | with_reducible exact Ext.refl _ | with_reducible apply Ext.drewN | with_reducible apply Ext.drew | with_reducible apply Ext.alloc | with_reducible refine Ext.set ?_ (by first | (simp; done) | (simp; omega)) _ | with_reducible refine Ext.next ?_ (by with_reducible assumption)))
    have y0 := keep hx17 t0
    have y1 := keep hx17 t1
    have yp := keep hx17 tp
    have yg := keep hx17 tg
    have sz17 := hx17.size
    clear t0 t1 tp tg
    go_wp2_with fail
    refine (markPoly _ _ _ _ _ _ (ho9'.ext (by repeat (first | with_reducible assumption | with_reducible exact Ext.refl _ | with_reducible apply Ext.drewN | with_reducible apply Ext.drew | with_reducible apply Ext.alloc | with_reducible refine Ext.set ?_ (by first | (simp; done) | (simp; omega)) _ | with_reducible refine Ext.next ?_ (by with_reducible assumption)))) (by omega) (by omega)).mono ?_
    rintro e w18 ⟨rfl, ho18, hu18⟩
    have x0 : w18.cell? ⟨w.heap.size, 0, none⟩ = some (.slice A0 ms0.length k0) := (hu18.cell (p := ⟨w.heap.size, 0, none⟩) (by simp only; omega) (fun hb => by have := hfo9 _ hb; simp only at this; omega)).trans y0
    have x1 : w18.cell? ⟨w.heap.size + 1, 0, none⟩ = some (.slice A1 ms1.length k1) := (hu18.cell (p := ⟨w.heap.size + 1, 0, none⟩) (by simp only; omega) (fun hb => by have := hfo9 _ hb; simp only at this; omega)).trans y1
    have xp : w18.cell? ⟨p, 0, none⟩ = some (.slice Ap msp.length kp) := (hu18.cell (p := ⟨p, 0, none⟩) (by simp only; omega) (fun hb => by have := hfo9 _ hb; simp only at this; omega)).trans yp
    have xg : w18.cell? ⟨w9.heap.size, 0, none⟩ = some (.slice A9 ms9.length k9) := (hu18.cell (p := ⟨w9.heap.size, 0, none⟩) (by simp only; omega) (fun hb => by have := hfo9 _ hb; simp only at this; omega)).trans yg
    have U18 : Upd (fun b => wc.heap.size ≤ b) w14 w18 := ((HU16.out.mono fun b _ hb => hb.1).next (.of_ext hx17)).next (hu18.mono fun b _ hb => by have := hfo9 b hb; omega)
    have hrp2 : RM 86 3 w18 Ap msp := RM.upd_lt HRP.out hxc14 U18 fun b hb hb' => by omega
    have hxw18 : Ext w w18 := ((Upd.of_ext (hxw16.next hx17)).next hu18).ext fun b hb => by have := hfo9 b hb; have := hxc.size; omega
    have hr9 := ho18.rm
    have sz18 := hu18.size
    clear y0 y1 yp yg hu18 ho18 ho9' hrp' hw17 U18 HU16 HRP
    go_wp2_with fail
    refine (heldPoly _ _ _ _ _ (hr9.ext (by repeat (first | with_reducible assumption | with_reducible exact Ext.refl _ | with_reducible apply Ext.drewN | with_reducible apply Ext.drew | with_reducible apply Ext.alloc | with_reducible refine Ext.set ?_ (by first | (simp; done) | (simp; omega)) _ | with_reducible refine Ext.next ?_ (by with_reducible assumption)))) (by omega) (by omega)).mono ?_
    rintro e w19 ⟨rfl, hw19⟩
    have hx19 : Ext w18 w19 := (by repeat (first | with_reducible assumption | with_reducible exact Ext.refl _ | with_reducible apply Ext.drewN | with_reducible apply Ext.drew | with_reducible apply Ext.alloc | with_reducible refine Ext.set ?_ (by first | (simp; done) | (simp; omega)) _ | with_reducible refine Ext.next ?_ (by with_reducible assumption)))
    have v0 := keep hx19 x0
    have v1 := keep hx19 x1
    have vp := keep hx19 xp
    have vg := keep hx19 xg
    have hxw19 := hxw18.next hx19
    have l19 := World.block_lt_of_cell? _ _ v1
    simp only at l19
    have sz19 := hx19.size
    clear x0 x1 xp xg hw19
    go_upto_region 31 with fail
    go_cut [15, 16] (fun u v wx => ∃ (p : Nat) (A : Option Addr) (k : Nat) (ms : List Mn), u = .pointer (some ⟨p, 0, none⟩) ∧ v = .bool bb ∧ wx.cell? ⟨p, 0, none⟩ = some (.slice A ms.length k) ∧ ms.map Mn.dat = dd ∧ RM 86 3 wx A ms ∧ w19.heap.size ≤ p ∧ Ext w19 wx)
    case first =>
      go_wp2
      go_region_held3 (fun w' => w'.cell? ⟨w.heap.size, 0, none⟩ = some (.slice A0 ms0.length k0) ∧ w'.cell? ⟨w.heap.size + 1, 0, none⟩ = some (.slice A1 ms1.length k1)) (first | (refine ⟨?_, ?_⟩ <;> ((repeat (first | with_reducible assumption | with_reducible refine keep (Ext.alloc (Ext.refl _) _) ?_ | with_reducible refine keep (Ext.drew (Ext.refl _)) ?_ | with_reducible refine keep (Ext.drewN (Ext.refl _) _) ?_ | with_reducible refine keep (by with_reducible assumption) ?_)); done)) | (go_split_ands; (refine ⟨?_, ?_⟩ <;> (rw [World.cell?_setCell_far _ _ _ _ (by simp; omega)]; ((repeat (first | with_reducible assumption | with_reducible refine keep (Ext.alloc (Ext.refl _) _) ?_ | with_reducible refine keep (Ext.drew (Ext.refl _)) ?_ | with_reducible refine keep (Ext.drewN (Ext.refl _) _) ?_ | with_reducible refine keep (by with_reducible assumption) ?_)); done))))) (first | (go_at_call_of 51 (Value.agg #[Value.slice A0 ms0.length k0]); refine (toPoly _ _ _ _ (h0.ext (by repeat (first | with_reducible assumption | with_reducible exact Ext.refl _ | with_reducible apply Ext.drewN | with_reducible apply Ext.drew | with_reducible apply Ext.alloc | with_reducible refine Ext.set ?_ (by first | (simp; done) | (simp; omega)) _ | with_reducible refine Ext.next ?_ (by with_reducible assumption)))) hn0 hx0).mono ?_; rintro e w20 ⟨A20, k20, ms20, rfl, hd20, ho20, hw20⟩; have HD20 := hid hd20; clear hd20; (obtain ⟨hc20, hf20⟩ := bcell_ hw20); (have hs20 := hw20.size); (try simp at hs20); (try (have lt1920 : w19.heap.size < w20.heap.size := Nat.lt_of_lt_of_le (Nat.lt_succ_self _) hs20)); (try (have lt1920 : w19.heap.size < w20.heap.size := Nat.lt_of_lt_of_le lt1921 hs20)); (try (have lt2120 : w21.heap.size < w20.heap.size := Nat.lt_of_lt_of_le (Nat.lt_succ_self _) hs20)); (try (have lt2120 : w21.heap.size < w20.heap.size := Nat.lt_of_lt_of_le lt2121 hs20))) | (go_at_call_of 51 (Value.agg #[Value.slice A1 ms1.length k1]); refine (toPoly _ _ _ _ (h1.ext (by repeat (first | with_reducible assumption | with_reducible exact Ext.refl _ | with_reducible apply Ext.drewN | with_reducible apply Ext.drew | with_reducible apply Ext.alloc | with_reducible refine Ext.set ?_ (by first | (simp; done) | (simp; omega)) _ | with_reducible refine Ext.next ?_ (by with_reducible assumption)))) hn1 hx1).mono ?_; rintro e w21 ⟨A21, k21, ms21, rfl, hd21, ho21, hw21⟩; have HD21 := hid hd21; clear hd21; (obtain ⟨hc21, hf21⟩ := bcell_ hw21); (have hs21 := hw21.size); (try simp at hs21); (try (have lt1921 : w19.heap.size < w21.heap.size := Nat.lt_of_lt_of_le (Nat.lt_succ_self _) hs21)); (try (have lt1921 : w19.heap.size < w21.heap.size := Nat.lt_of_lt_of_le lt1920 hs21)); (try (have lt2021 : w20.heap.size < w21.heap.size := Nat.lt_of_lt_of_le (Nat.lt_succ_self _) hs21)); (try (have lt2021 : w20.heap.size < w21.heap.size := Nat.lt_of_lt_of_le lt2020 hs21))) | (go_at_call 26; refine (implPolMul _ _ _ _ ms20 ms21 _ (ho20.rn.ext (by repeat (first | with_reducible assumption | with_reducible exact Ext.refl _ | with_reducible apply Ext.drewN | with_reducible apply Ext.drew | with_reducible apply Ext.alloc | with_reducible refine Ext.set ?_ (by first | (simp; done) | (simp; omega)) _ | with_reducible refine Ext.next ?_ (by with_reducible assumption)))) (ho21.rn.ext (by repeat (first | with_reducible assumption | with_reducible exact Ext.refl _ | with_reducible apply Ext.drewN | with_reducible apply Ext.drew | with_reducible apply Ext.alloc | with_reducible refine Ext.set ?_ (by first | (simp; done) | (simp; omega)) _ | with_reducible refine Ext.next ?_ (by with_reducible assumption)))) (SzM.of_dat HD20.out ht0) (SzM.of_dat HD21.out ht1)).mono ?_; rintro e w22 ⟨A22, k22, ms22, rfl, hd22, ho22, hw22⟩; have HD22 := hid hd22; clear hd22; (obtain ⟨hc22, hf22⟩ := bcell_ hw22); (have hs22 := hw22.size); (try simp at hs22); (try (have lt1922 : w19.heap.size < w22.heap.size := Nat.lt_of_lt_of_le (Nat.lt_succ_self _) hs22)); (try (have lt1922 : w19.heap.size < w22.heap.size := Nat.lt_of_lt_of_le lt1920 hs22)); (try (have lt1922 : w19.heap.size < w22.heap.size := Nat.lt_of_lt_of_le lt1921 hs22)); (try (have lt2022 : w20.heap.size < w22.heap.size := Nat.lt_of_lt_of_le (Nat.lt_succ_self _) hs22)); (try (have lt2022 : w20.heap.size < w22.heap.size := Nat.lt_of_lt_of_le lt2020 hs22)); (try (have lt2022 : w20.heap.size < w22.heap.size := Nat.lt_of_lt_of_le lt2021 hs22)); (try (have lt2122 : w21.heap.size < w22.heap.size := Nat.lt_of_lt_of_le (Nat.lt_succ_self _) hs22)); (try (have lt2122 : w21.heap.size < w22.heap.size := Nat.lt_of_lt_of_le lt2120 hs22)); (try (have lt2122 : w21.heap.size < w22.heap.size := Nat.lt_of_lt_of_le lt2121 hs22))))
      all_goals
        have HB : Hid (polMul (ms20.map Mn.dat) (ms21.map Mn.dat) = polMul (ms0.map Mn.dat) (ms1.map Mn.dat)) := hid (by rw [HD20.out, HD21.out])
        have HO := hid ho22
        go_wp2
        go_meet
        refine ⟨_, A22, k22, ms22, rfl, by rw [HBB.out, HB.out], ?_, by rw [HD22.out, HB.out, HDD.out], ?_, ?_, ?_⟩
        · go_simp
        · first | (refine (HO.out.set ?_ _).rm; (first | (simp; done) | (simp; omega) | omega)) | (refine (HO.out.ext ?_).rm; exact (by repeat (first | with_reducible assumption | with_reducible exact Ext.refl _ | with_reducible apply Ext.drewN | with_reducible apply Ext.drew | with_reducible apply Ext.alloc | with_reducible refine Ext.set ?_ (by first | (simp; done) | (simp; omega)) _ | with_reducible refine Ext.next ?_ (by with_reducible assumption))))
        · first | (simp; done) | omega | (simp; omega)
        · exact (by repeat (first | with_reducible assumption | with_reducible exact Ext.refl _ | with_reducible apply Ext.drewN | with_reducible apply Ext.drew | with_reducible apply Ext.alloc | with_reducible refine Ext.set ?_ (by first | (simp; done) | (simp; omega)) _ | with_reducible refine Ext.next ?_ (by with_reducible assumption)))
    case rest =>
      obtain ⟨p2, Aq, kq, msq, rfl, rfl, cq, hdq, hrq, hql, hwq2⟩ := hcut
      have HDQ := hid hdq
      have up := keep hwq2 vp
      have ug := keep hwq2 vg
      have lq := World.block_lt_of_cell? _ _ cq
      simp only at lq
      have lup := World.block_lt_of_cell? _ _ up
      simp only at lup
      have lug := World.block_lt_of_cell? _ _ ug
      simp only at lug
      have hxwq := hxw19.next hwq2
      have hxpq := hx19.next hwq2
      have hr9q := hr9.ext hxpq
      have hrpq := hrp2.ext hxpq
      have htq := HTD.out msq HDQ.out
      have hnq : msq.length < 4611686018427387904 := by unfold totM at htq; omega
      clear hdq v0 v1 vp vg hwq2
      go_wp2_with fail
      refine (eqPoly _ _ _ _ _ _ msq msp _ (hrq.ext (by repeat (first | with_reducible assumption | with_reducible exact Ext.refl _ | with_reducible apply Ext.drewN | with_reducible apply Ext.drew | with_reducible apply Ext.alloc | with_reducible refine Ext.set ?_ (by first | (simp; done) | (simp; omega)) _ | with_reducible refine Ext.next ?_ (by with_reducible assumption)))) (hrpq.ext (by repeat (first | with_reducible assumption | with_reducible exact Ext.refl _ | with_reducible apply Ext.drewN | with_reducible apply Ext.drew | with_reducible apply Ext.alloc | with_reducible refine Ext.set ?_ (by first | (simp; done) | (simp; omega)) _ | with_reducible refine Ext.next ?_ (by with_reducible assumption)))) (HDQ.out.trans HDP.out.symm) rfl rfl (SzM.of_tot (by omega))).mono ?_
      rintro e w23 ⟨rfl, hw23⟩
      have fg := keep hw23 ug
      go_wp2_with fail
      refine (heldPoly _ _ _ _ _ (hr9q.ext (by repeat (first | with_reducible assumption | with_reducible exact Ext.refl _ | with_reducible apply Ext.drewN | with_reducible apply Ext.drew | with_reducible apply Ext.alloc | with_reducible refine Ext.set ?_ (by first | (simp; done) | (simp; omega)) _ | with_reducible refine Ext.next ?_ (by with_reducible assumption)))) (by omega) (by omega)).mono ?_
      rintro e w24 ⟨rfl, hw24⟩
      go_wp2
      go_ret
      exact ⟨rfl, (by repeat (first | with_reducible assumption | with_reducible exact Ext.refl _ | with_reducible apply Ext.drewN | with_reducible apply Ext.drew | with_reducible apply Ext.alloc | with_reducible refine Ext.set ?_ (by first | (simp; done) | (simp; omega)) _ | with_reducible refine Ext.next ?_ (by with_reducible assumption)))⟩

set_option maxRecDepth 100000 in
theorem lifted (os : Os) (started : os.Started) (H : Type) (enc : TypeId × Value → H) :
    ReturnsInHanded {} Try.checked os 20 .any (Rows.fnExactPolMulSpec.pre6 enc Try.prog Try.f20 Rows.fnExactPolMulRow.domain false) (Rows.fnExactPolMulSpec.post enc Try.prog Try.f20 false true false false) := by
  refine returnsInHanded_of_change (C := Try.checked) ownKnob_ started (by kernel_rfl) Try.func20
    (ChangeSpec.witness6 (enc := enc) (C := Try.checked) false ⟨#[], #[.agg #[.slice none 0 0], .agg #[.slice none 0 0]], []⟩ 8 (by kernel_rfl) (by kernel_rfl) (by kernel_rfl) (by kernel_rfl)) ?_
  intro W base args ds gs before hval0 hW hcnd _
  have hval : ∀ (j : Nat) t v, Try.f20.params[j]? = some t → args[j]? = some v → Value.okWide Try.prog W .any base t v := hval0
  have hW' := hW
  obtain ⟨p, q, hA0, hV, rfl, hfz, hnd⟩ := hW
  have hA : DataW.TrodAll enc Try.prog W 0 (fun _ => true) true Try.f20.params.toList args.toList ds p := hA0
  rw [Try.params20] at hA hval
  obtain ⟨v0, vs0, d0, ds0, p0, q0, hargs, rfl, rfl, g0, r0⟩ := trodAll_cons hA
  obtain ⟨v1, vs1, d1, ds1, p1, q1, rfl, rfl, rfl, g1, r1⟩ := trodAll_cons r0
  obtain ⟨rfl, rfl, rfl⟩ := trodAll_nil r1
  obtain rfl : args = #[v0, v1] := by cases args; simp_all
  obtain ⟨rfl, rfl⟩ := trodVars_none hV
  have lt0 : ∀ x ∈ p0, x.block < W.heap.size := by obtain ⟨m, hm⟩ := g0; exact DataW.trod_lt m _ _ _ hm
  obtain ⟨A0, k0, ms0, e0, h0, s0⟩ := read_poly (hval 0 48 v0 rfl rfl) g0
  subst e0
  have lt1 : ∀ x ∈ p1, x.block < W.heap.size := by obtain ⟨m, hm⟩ := g1; exact DataW.trod_lt m _ _ _ hm
  obtain ⟨A1, k1, ms1, e1, h1, s1⟩ := read_poly (hval 1 48 v1 rfl rfl) g1
  subst e1
  clear hA0 hval0
  refine (walk A0 k0 ms0 A1 k1 ms1 W h0 s0 h1 s1).mono fun e W' ⟨he, bel⟩ => ?_
  subst he
  exact ⟨_, rfl, _, _, _, [], _, [], hW', trodAll_mk1 (shut_bool Try.underlying4 _), (trodAll_cons_mk (Below.trod laidOut_ (by kernel_rfl) (of_decide_eq_true (by kernel_rfl)) g0 bel.out lt0) (trodAll_cons_mk (Below.trod laidOut_ (by kernel_rfl) (of_decide_eq_true (by kernel_rfl)) g1 bel.out lt1) trodAll_mk0)), rfl, bel.out.frame _, fun h => by cases h⟩
theorem cf0 : (fun (P : Program) (f : FuncId) (fn : Func) (s : ChangeSpec) (c : OpenClaim) => (c.wf (OpenSpec.ofChange s) : Bool)) Try.prog 20 Try.f20 Rows.fnExactPolMulSpec Rows.fnExactPolMulRow = true := by kernel_rfl
theorem cf3 : (fun (P : Program) (f : FuncId) (fn : Func) (s : ChangeSpec) (c : OpenClaim) => (fn.params.all (P.readableRec ·) : Bool)) Try.prog 20 Try.f20 Rows.fnExactPolMulSpec Rows.fnExactPolMulRow = true := by kernel_rfl
theorem cf4 : (fun (P : Program) (f : FuncId) (fn : Func) (s : ChangeSpec) (c : OpenClaim) => (namedTie P c.named s.vars : Bool)) Try.prog 20 Try.f20 Rows.fnExactPolMulSpec Rows.fnExactPolMulRow = true := by kernel_rfl
theorem cf5 : (fun (P : Program) (f : FuncId) (fn : Func) (s : ChangeSpec) (c : OpenClaim) => ((c.stops == []) : Bool)) Try.prog 20 Try.f20 Rows.fnExactPolMulSpec Rows.fnExactPolMulRow = true := by kernel_rfl
theorem cf7 : (fun (P : Program) (f : FuncId) (fn : Func) (s : ChangeSpec) (c : OpenClaim) => ((c.knobs == []) : Bool)) Try.prog 20 Try.f20 Rows.fnExactPolMulSpec Rows.fnExactPolMulRow = true := by kernel_rfl
theorem cf9 : (fun (P : Program) (f : FuncId) (fn : Func) (s : ChangeSpec) (c : OpenClaim) => ((c.inPlace == P.inPlace f) : Bool)) Try.prog 20 Try.f20 Rows.fnExactPolMulSpec Rows.fnExactPolMulRow = true := by kernel_rfl
theorem cf10 : (fun (P : Program) (f : FuncId) (fn : Func) (s : ChangeSpec) (c : OpenClaim) => ((c.unfollowed == P.unfollowed f) : Bool)) Try.prog 20 Try.f20 Rows.fnExactPolMulSpec Rows.fnExactPolMulRow = true := by kernel_rfl
theorem cf11 : (fun (P : Program) (f : FuncId) (fn : Func) (s : ChangeSpec) (c : OpenClaim) => ((c.recurses == P.recurses f) : Bool)) Try.prog 20 Try.f20 Rows.fnExactPolMulSpec Rows.fnExactPolMulRow = true := by kernel_rfl
theorem cf12 : (fun (P : Program) (f : FuncId) (fn : Func) (s : ChangeSpec) (c : OpenClaim) => ((c.named == P.varsNamed f) : Bool)) Try.prog 20 Try.f20 Rows.fnExactPolMulSpec Rows.fnExactPolMulRow = true := by kernel_rfl
theorem cf13 : (fun (P : Program) (f : FuncId) (fn : Func) (s : ChangeSpec) (c : OpenClaim) => ((c.maps == (fn.params.toList ++ s.plain.varTypes P).any (P.mapsRec ·)) : Bool)) Try.prog 20 Try.f20 Rows.fnExactPolMulSpec Rows.fnExactPolMulRow = true := by kernel_rfl
theorem cf14 : (fun (P : Program) (f : FuncId) (fn : Func) (s : ChangeSpec) (c : OpenClaim) => ((c.ifaces == (fn.params.toList ++ s.plain.varTypes P).any (P.ifacesRec ·)) : Bool)) Try.prog 20 Try.f20 Rows.fnExactPolMulSpec Rows.fnExactPolMulRow = true := by kernel_rfl
theorem cf15 : (fun (P : Program) (f : FuncId) (fn : Func) (s : ChangeSpec) (c : OpenClaim) => ((c.mapsOut == P.mapsAmong fn.resultTypes.toList) : Bool)) Try.prog 20 Try.f20 Rows.fnExactPolMulSpec Rows.fnExactPolMulRow = true := by kernel_rfl
theorem cf16 : (fun (P : Program) (f : FuncId) (fn : Func) (s : ChangeSpec) (c : OpenClaim) => ((c.loops == (fn.params.toList ++ s.plain.varTypes P).any (P.loopsFrom ·)) : Bool)) Try.prog 20 Try.f20 Rows.fnExactPolMulSpec Rows.fnExactPolMulRow = true := by kernel_rfl
theorem cf17 : (fun (P : Program) (f : FuncId) (fn : Func) (s : ChangeSpec) (c : OpenClaim) => ((c.wideKeys == (fn.params.toList ++ s.plain.varTypes P ++ fn.resultTypes.toList).any (P.wideKeysFrom ·)) : Bool)) Try.prog 20 Try.f20 Rows.fnExactPolMulSpec Rows.fnExactPolMulRow = true := by kernel_rfl
theorem cf18 : (fun (P : Program) (f : FuncId) (fn : Func) (s : ChangeSpec) (c : OpenClaim) => (s.vars.all (P.varReadable ·) : Bool)) Try.prog 20 Try.f20 Rows.fnExactPolMulSpec Rows.fnExactPolMulRow = true := by kernel_rfl
theorem cf19 : (fun (P : Program) (f : FuncId) (fn : Func) (s : ChangeSpec) (c : OpenClaim) => (fn.resultTypes.all (fun t => P.readableRec t && decide (t < P.types.size)) : Bool)) Try.prog 20 Try.f20 Rows.fnExactPolMulSpec Rows.fnExactPolMulRow = true := by kernel_rfl
theorem cf20 : (fun (P : Program) (f : FuncId) (fn : Func) (s : ChangeSpec) (c : OpenClaim) => ((c.ifacesOut == fn.resultTypes.toList.any (P.ifacesRec ·)) : Bool)) Try.prog 20 Try.f20 Rows.fnExactPolMulSpec Rows.fnExactPolMulRow = true := by kernel_rfl
theorem cf21 : (fun (P : Program) (f : FuncId) (fn : Func) (s : ChangeSpec) (c : OpenClaim) => ((c.loopsOut == fn.resultTypes.toList.any (P.loopsFrom ·)) : Bool)) Try.prog 20 Try.f20 Rows.fnExactPolMulSpec Rows.fnExactPolMulRow = true := by kernel_rfl
theorem cf23 : (fun (P : Program) (f : FuncId) (fn : Func) (s : ChangeSpec) (c : OpenClaim) => (c.shortTexts.isNone : Bool)) Try.prog 20 Try.f20 Rows.fnExactPolMulSpec Rows.fnExactPolMulRow = true := by kernel_rfl
theorem cf28 : (fun (P : Program) (f : FuncId) (fn : Func) (s : ChangeSpec) (c : OpenClaim) => ((c.kinds == (if c.domain.isEmpty then [] else fn.params.toList.map fun t => match P.underlying t with | some (.int k) => some k | _ => none)) : Bool)) Try.prog 20 Try.f20 Rows.fnExactPolMulSpec Rows.fnExactPolMulRow = true := by kernel_rfl
theorem cf29 : (fun (P : Program) (f : FuncId) (fn : Func) (s : ChangeSpec) (c : OpenClaim) => ((c.pinned == c.pinnedBy) : Bool)) Try.prog 20 Try.f20 Rows.fnExactPolMulSpec Rows.fnExactPolMulRow = true := by kernel_rfl
theorem cf30 : (fun (P : Program) (f : FuncId) (fn : Func) (s : ChangeSpec) (c : OpenClaim) => ((c.veiled == (fn.params.toList ++ s.plain.varTypes P ++ fn.resultTypes.toList).any (P.veiledRec ·)) : Bool)) Try.prog 20 Try.f20 Rows.fnExactPolMulSpec Rows.fnExactPolMulRow = true := by kernel_rfl
theorem cf31 : (fun (P : Program) (f : FuncId) (fn : Func) (s : ChangeSpec) (c : OpenClaim) => (c.veiledFits P fn.params.toList (fn.params.toList ++ s.plain.varTypes P ++ fn.resultTypes.toList) : Bool)) Try.prog 20 Try.f20 Rows.fnExactPolMulSpec Rows.fnExactPolMulRow = true := by kernel_rfl

set_option maxRecDepth 100000 in
theorem closed : joinedFacts Try.prog 20 Try.f20 Rows.fnExactPolMulSpec Rows.fnExactPolMulRow = true := by
  unfold joinedFacts
  exact (band (band (band (band (band (band (band (band (band (band (band (band (band (band (band (band (band (band (band (band (band (band (band (band (band (band (band (band (band (band (band cf0 pf1) pf2) cf3) cf4) cf5) pf6) cf7) pf8) cf9) cf10) cf11) cf12) cf13) cf14) cf15) cf16) cf17) cf18) cf19) cf20) cf21) pf22) cf23) pf24) pf25) pf26) pf27) cf28) cf29) cf30) cf31)
theorem inst : Try.f20.isInstance Try.prog Rows.fnExactPolMulRow.origin Rows.fnExactPolMulRow.targs := of_decide_eq_true (by kernel_rfl)
theorem wrap_ : Try.f20.isWrapper Try.prog Rows.fnExactPolMulRow.wrapper Rows.fnExactPolMulRow.mainSum := by
  unfold Func.isWrapper
  rw [if_neg (by decide +kernel)]
  exact ⟨rfl, rfl⟩

theorem over : Rows.fnExactPolMulRow.holds Try.pinned (OpenSpec.ofChange Rows.fnExactPolMulSpec) :=
  OpenClaim.holds_of_wide 20 Try.f20 rfl rfl rfl rfl rfl rfl rfl ⟨rfl, rfl, rfl, rfl, rfl⟩ rfl rfl rfl rfl rfl (by as_aux_lemma => kernel_rfl) Try.func20 closed inst wrap_
    (fun os started H enc _ => lifted os started H enc)

theorem proved : Rows.FnExactPolMulSaid := over
#print axioms proved
end Go.Proofs.Ytmlegiifceangaa.fnExactPolMul
