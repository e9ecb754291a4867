/- The law FnPolScale: PolScale is what the reference says, what PolMul makes of the constant and the sum, ok, once the sum itself, none at all at no times, and worth so many times what the sum is worth. Conditions: none. -/
import Derived.Test.YtcgelcaepkakaaaRows
import Derived.WalkKit
import Derived.ProofKit
import Derived.OpenShut
import Derived.ShutString
import Derived.ChangeOld
import Derived.Below
import Derived.Carry
import Derived.Test.YtcgelcaepkakaaaF
import Derived.Test.YtcgelcaepkakaaaK
import Derived.Test.YtcgelcaepkakaaaPX
import Derived.Deep.RegionHeld3
import Derived.Deep.DeepCutAuto
namespace Go.Proofs.Ytcgelcaepkakaaa.fnPolScale
open Go.ChangeShapes Go.WideShapes Go.ChangeAt Go.RowKit
set_option linter.unusedVariables false
set_option linter.unusedSimpArgs false

set_option maxRecDepth 100000 in
set_option maxHeartbeats 10000000 in
theorem walk (A0 : Option Addr) (k0 : Nat) (bs0 : List Int) (A1 : Option Addr) (k1 : Nat) (bs1 : List Int) (w : World) (h0 : AB w A0 bs0) (s0 : bs0.length ≤ 9223372036854775807 ∧ bs0.length ≤ k0) (h1 : AB w A1 bs1) (s1 : bs1.length ≤ 9223372036854775807 ∧ bs1.length ≤ k1) :
    Calls Try.prog 4 #[.slice A0 bs0.length k0, .slice A1 bs1.length k1] w fun e w' => e = .returned (.bool true) ∧ Ext w w' := by
  by_cases hz : (1048576 : Int) < bs0.length
  · go_enter Try.func4, Try.ntmps4
    go_wp2
    go_ret
    exact ⟨rfl, (by repeat (first | with_reducible assumption | with_reducible exact Ext.refl _ | with_reducible apply Ext.drewN | with_reducible apply Ext.drew | with_reducible apply Ext.alloc | with_reducible refine Ext.set ?_ (by first | (simp; done) | (simp; omega)) _ | with_reducible refine Ext.next ?_ (by with_reducible assumption)))⟩
  by_cases hy : (1048576 : Int) < bs1.length
  · go_enter Try.func4, Try.ntmps4
    go_wp2
    go_ret
    exact ⟨rfl, (by repeat (first | with_reducible assumption | with_reducible exact Ext.refl _ | with_reducible apply Ext.drewN | with_reducible apply Ext.drew | with_reducible apply Ext.alloc | with_reducible refine Ext.set ?_ (by first | (simp; done) | (simp; omega)) _ | with_reducible refine Ext.next ?_ (by with_reducible assumption)))⟩
  go_enter Try.func4, Try.ntmps4
  go_wp2_with fail
  refine (drawScale _ _ _ _ h0 s0.1 s0.2).mono ?_
  rintro e w1 ⟨A1, k1, ms1, v, rfl, G1, hv, hw1⟩
  have hs1 := G1.szM
  have HA := hid G1
  clear G1
  go_wp2_with fail
  refine (drawEval _ _ _ _ (h1.ext (by repeat (first | with_reducible assumption | with_reducible exact Ext.refl _ | with_reducible apply Ext.drewN | with_reducible apply Ext.drew | with_reducible apply Ext.alloc | with_reducible refine Ext.set ?_ (by first | (simp; done) | (simp; omega)) _ | with_reducible refine Ext.next ?_ (by with_reducible assumption)))) s1.1 s1.2).mono ?_
  rintro e w2 ⟨A3, k3, ms3, A4, k4, xs, rfl, G3, O4, hl4, hw2⟩
  have c1 : w2.cell? ⟨w1.heap.size, 0, none⟩ = some (.slice A1 ms1.length k1) := keep hw2 (by go_simp)
  have z1 := World.block_lt_of_cell? _ _ c1
  simp only at z1
  have HX := hid O4
  clear G3 O4
  obtain ⟨dn, hdn⟩ : ∃ d, polConst v = d := ⟨_, rfl⟩
  have HCN := hid hdn
  obtain ⟨dd, hdd⟩ : ∃ d, polScale (ms1.map Mn.dat) v = d := ⟨_, rfl⟩
  have HD := hid hdd
  have HDK : Hid (polOk dd = true) := hid (by rw [← hdd]; exact polOk_polScale _ _)
  have HNO : Hid ((polOk (ms1.map Mn.dat) && wrdOk v) = false → dd = []) := hid fun h => by rw [← hdd, polScale_no h]
  have HEV : Hid (∀ vs, polOk (ms1.map Mn.dat) = true → wrdOk v = true → wordsB vs = true → wrdDo 3 v (polEval (ms1.map Mn.dat) vs) = polEval dd vs) := hid fun vs ha hn hw => by
    rw [← hdd]
    exact (scale_eval ha hn hw).symm
  have HMU : Hid (polOk (ms1.map Mn.dat) = true → wrdOk v = true → polMul dn (ms1.map Mn.dat) = (dd, true)) := hid fun ha hn => by
    rw [← hdd, ← hdn, polMul_comm]
    exact const_mul ha hn
  clear hdd hdn
  go_wp2_with fail
  refine (implPolScale_v _ _ ms1 v _ (HA.out.rn.ext (by repeat (first | with_reducible assumption | with_reducible exact Ext.refl _ | with_reducible apply Ext.drewN | with_reducible apply Ext.drew | with_reducible apply Ext.alloc | with_reducible refine Ext.set ?_ (by first | (simp; done) | (simp; omega)) _ | with_reducible refine Ext.next ?_ (by with_reducible assumption)))) hs1 HD.out).mono ?_
  rintro e w3 ⟨A5, k5, ms5, rfl, hd5, hs5, ho5, hw3⟩
  replace c1 := keep (Ext.next (by repeat (first | with_reducible assumption | with_reducible exact Ext.refl _ | with_reducible apply Ext.drewN | with_reducible apply Ext.drew | with_reducible apply Ext.alloc | with_reducible refine Ext.set ?_ (by first | (simp; done) | (simp; omega)) _ | with_reducible refine Ext.next ?_ (by with_reducible assumption))) hw3) c1
  replace z1 := World.block_lt_of_cell? _ _ c1
  simp only at z1
  have HD5 := hid hd5
  have HP := hid ho5
  clear hd5 ho5
  go_wp2
  have g1 : (w3.alloc (.cells #[.slice A5 ms5.length k5] 25)).cell? ⟨w1.heap.size, 0, none⟩ = some (.slice A1 ms1.length k1) := by go_simp
  have g5 : (w3.alloc (.cells #[.slice A5 ms5.length k5] 25)).cell? ⟨w3.heap.size, 0, none⟩ = some (.slice A5 ms5.length k5) := by go_simp
  go_region_held3 (fun w' => w'.cell? ⟨w1.heap.size, 0, none⟩ = some (.slice A1 ms1.length k1) ∧ w'.cell? ⟨w3.heap.size, 0, none⟩ = some (.slice A5 ms5.length k5)) (refine ⟨?_, ?_⟩ <;> ((repeat (first | with_reducible assumption | with_reducible refine keep (Ext.alloc (Ext.refl _) _) ?_ | with_reducible refine keep (Ext.drew (Ext.refl _)) ?_ | with_reducible refine keep (Ext.drewN (Ext.refl _) _) ?_ | with_reducible refine keep (by with_reducible assumption) ?_)); done)) (first
    | (go_at_call 24; (refine (specPolScale_v _ _ ms1 v _ (HA.out.rn.ext (by repeat (first | with_reducible assumption | with_reducible exact Ext.refl _ | with_reducible apply Ext.drewN | with_reducible apply Ext.drew | with_reducible apply Ext.alloc | with_reducible refine Ext.set ?_ (by first | (simp; done) | (simp; omega)) _ | with_reducible refine Ext.next ?_ (by with_reducible assumption)))) hs1 HD.out).mono ?_); (rintro e w4 ⟨A6, k6, ms6, rfl, hd6, hs6, ho6, hw4⟩); (have HD6 := hid hd6); (have HQ := hid ho6); clear hd6 ho6)
    | (go_at_call 15; (refine (laPoly_v _ _ _ _ ms5 ms6 _ (HP.out.rm.ext (by repeat (first | with_reducible assumption | with_reducible exact Ext.refl _ | with_reducible apply Ext.drewN | with_reducible apply Ext.drew | with_reducible apply Ext.alloc | with_reducible refine Ext.set ?_ (by first | (simp; done) | (simp; omega)) _ | with_reducible refine Ext.next ?_ (by with_reducible assumption)))) (HQ.out.rm.ext (by repeat (first | with_reducible assumption | with_reducible exact Ext.refl _ | with_reducible apply Ext.drewN | with_reducible apply Ext.drew | with_reducible apply Ext.alloc | with_reducible refine Ext.set ?_ (by first | (simp; done) | (simp; omega)) _ | with_reducible refine Ext.next ?_ (by with_reducible assumption)))) hs5 hs6 (HD5.out.trans HD6.out.symm)).mono ?_); (rintro e w5 ⟨rfl, hw5⟩)))
  have x35 : Ext (w3.alloc (.cells #[.slice A5 ms5.length k5] 25)) w5 := (by repeat (first | with_reducible assumption | with_reducible exact Ext.refl _ | with_reducible apply Ext.drewN | with_reducible apply Ext.drew | with_reducible apply Ext.alloc | with_reducible refine Ext.set ?_ (by first | (simp; done) | (simp; omega)) _ | with_reducible refine Ext.next ?_ (by with_reducible assumption)))
  replace c1 := keep x35 g1
  replace z1 := World.block_lt_of_cell? _ _ c1
  have c5 := keep x35 g5
  have z5 := World.block_lt_of_cell? _ _ c5
  simp only at z1 z5
  clear g1 g5
  go_wp2_with fail
  refine (specPolOk _ _ ms1 _ (HA.out.rm.ext (by repeat (first | with_reducible assumption | with_reducible exact Ext.refl _ | with_reducible apply Ext.drewN | with_reducible apply Ext.drew | with_reducible apply Ext.alloc | with_reducible refine Ext.set ?_ (by first | (simp; done) | (simp; omega)) _ | with_reducible refine Ext.next ?_ (by with_reducible assumption)))) hs1).mono ?_
  rintro e w6 ⟨rfl, hw6⟩
  replace c1 := keep (Ext.next (by repeat (first | with_reducible assumption | with_reducible exact Ext.refl _ | with_reducible apply Ext.drewN | with_reducible apply Ext.drew | with_reducible apply Ext.alloc | with_reducible refine Ext.set ?_ (by first | (simp; done) | (simp; omega)) _ | with_reducible refine Ext.next ?_ (by with_reducible assumption))) hw6) c1
  replace z1 := World.block_lt_of_cell? _ _ c1
  simp only at z1
  replace c5 := keep (Ext.next (by repeat (first | with_reducible assumption | with_reducible exact Ext.refl _ | with_reducible apply Ext.drewN | with_reducible apply Ext.drew | with_reducible apply Ext.alloc | with_reducible refine Ext.set ?_ (by first | (simp; done) | (simp; omega)) _ | with_reducible refine Ext.next ?_ (by with_reducible assumption))) hw6) c5
  replace z5 := World.block_lt_of_cell? _ _ c5
  simp only at z5
  cases ok : polOk (ms1.map Mn.dat)
  · have HZ : Hid (dd = []) := hid (HNO.out (by rw [ok]; rfl))
    clear ok
    obtain rfl : ms5 = [] := List.map_eq_nil_iff.1 (HD5.out.trans HZ.out)
    go_wp2_with (go_at_call 17; refine (laOk_ _).mono ?_; rintro e w' ⟨rfl, rfl⟩)
    go_ret
    exact ⟨rfl, (by repeat (first | with_reducible assumption | with_reducible exact Ext.refl _ | with_reducible apply Ext.drewN | with_reducible apply Ext.drew | with_reducible apply Ext.alloc | with_reducible refine Ext.set ?_ (by first | (simp; done) | (simp; omega)) _ | with_reducible refine Ext.next ?_ (by with_reducible assumption)))⟩
  go_wp2_with fail
  refine (specWrdOk _ _).mono ?_
  rintro e w' ⟨rfl, rfl⟩
  cases okn : wrdOk v
  · have HZ : Hid (dd = []) := hid (HNO.out (by rw [ok, okn]; rfl))
    clear ok okn
    obtain rfl : ms5 = [] := List.map_eq_nil_iff.1 (HD5.out.trans HZ.out)
    go_wp2_with (go_at_call 17; refine (laOk_ _).mono ?_; rintro e w' ⟨rfl, rfl⟩)
    go_ret
    exact ⟨rfl, (by repeat (first | with_reducible assumption | with_reducible exact Ext.refl _ | with_reducible apply Ext.drewN | with_reducible apply Ext.drew | with_reducible apply Ext.alloc | with_reducible refine Ext.set ?_ (by first | (simp; done) | (simp; omega)) _ | with_reducible refine Ext.next ?_ (by with_reducible assumption)))⟩
  have HM : Hid (polMul dn (ms1.map Mn.dat) = (dd, true)) := hid (HMU.out ok okn)
  obtain ⟨ys, hys⟩ : ∃ ys, xs.map wrap = ys := ⟨_, rfl⟩
  obtain ⟨e1, he1⟩ : ∃ e, polEval (ms1.map Mn.dat) ys = e := ⟨_, rfl⟩
  obtain ⟨e2, he2⟩ : ∃ e, polEval dd ys = e := ⟨_, rfl⟩
  have HE1 := hid he1
  have HE2 := hid he2
  have HWD : Hid (wrdDo 3 v e1 = e2) := hid (by rw [← he1, ← he2, ← hys]; exact HEV.out _ ok okn (wordsB_wraps xs))
  have HYS := hid hys
  have hyl : ys.length ≤ 8 := by rw [← hys, List.length_map]; omega
  have HS1 : Hid (polScale (ms1.map Mn.dat) 1 = ms1.map Mn.dat) := hid (scale_one ok)
  have HS0 : Hid (polScale (ms1.map Mn.dat) 0 = []) := hid (scale_zero _)
  clear he1 he2 hys ok okn
  go_upto_region 10 with fail
  go_cut [10, 11] (fun u t wx => ∃ (p : Nat) (A : Option Addr) (k : Nat) (ms : List Mn), u = .pointer (some ⟨p, 0, none⟩) ∧ t = .bool true ∧ wx.cell? ⟨p, 0, none⟩ = some (.slice A ms.length k) ∧ ms.map Mn.dat = dd ∧ SzM ms ∧ RM 73 3 wx A ms ∧ w6.heap.size ≤ p ∧ Ext w6 wx)
  case first =>
    go_wp2
    go_region_held3 (fun w' => w'.cell? ⟨w1.heap.size, 0, none⟩ = some (.slice A1 ms1.length k1)) (first | ((repeat (first | with_reducible assumption | with_reducible refine keep (Ext.alloc (Ext.refl _) _) ?_ | with_reducible refine keep (Ext.drew (Ext.refl _)) ?_ | with_reducible refine keep (Ext.drewN (Ext.refl _) _) ?_ | with_reducible refine keep (by with_reducible assumption) ?_)); done) | (rw [World.cell?_setCell_far _ _ _ _ (by simp; omega)]; ((repeat (first | with_reducible assumption | with_reducible refine keep (Ext.alloc (Ext.refl _) _) ?_ | with_reducible refine keep (Ext.drew (Ext.refl _)) ?_ | with_reducible refine keep (Ext.drewN (Ext.refl _) _) ?_ | with_reducible refine keep (by with_reducible assumption) ?_)); done))) (first
      | (go_at_call 26; (refine (implPolConst_v v _ HCN.out).mono ?_); (rintro e w7 ⟨A7, k7, ms7, rfl, hd7, hs7, ho7, hw7⟩); (have HD7 := hid hd7); (have HQ7 := hid ho7); clear hd7 ho7; (obtain ⟨hc7, hf7⟩ := bcell_ hw7); (have hz7 := hw7.size); (try simp at hz7); (try (have lt67 : w6.heap.size < w7.heap.size := Nat.lt_of_lt_of_le (Nat.lt_succ_self _) hz7)))
      | (go_at_call 13; (refine (implPolMul _ _ _ _ ms7 ms1 _ (HQ7.out.ext (by repeat (first | with_reducible assumption | with_reducible exact Ext.refl _ | with_reducible apply Ext.drewN | with_reducible apply Ext.drew | with_reducible apply Ext.alloc | with_reducible refine Ext.set ?_ (by first | (simp; done) | (simp; omega)) _ | with_reducible refine Ext.next ?_ (by with_reducible assumption)))) (HA.out.rn.ext (by repeat (first | with_reducible assumption | with_reducible exact Ext.refl _ | with_reducible apply Ext.drewN | with_reducible apply Ext.drew | with_reducible apply Ext.alloc | with_reducible refine Ext.set ?_ (by first | (simp; done) | (simp; omega)) _ | with_reducible refine Ext.next ?_ (by with_reducible assumption)))) hs7 hs1).mono ?_); (rintro e w8 ⟨A8, k8, ms8, rfl, hd8, ho8, hw8⟩); (rw [HD7.out, HM.out] at hd8 ⊢); (have HD8 : Hid (ms8.map Mn.dat = dd) := hid hd8); (have hs8 := szM_ok hd8 HDK.out); clear hd8; (obtain ⟨hc8, hf8⟩ := bcell_ hw8); (have hz8 := hw8.size); (try simp at hz8); (try (have lt78 : w7.heap.size < w8.heap.size := Nat.lt_of_lt_of_le (Nat.lt_succ_self _) hz8)); (try (have lt68 : w6.heap.size < w8.heap.size := Nat.lt_of_lt_of_le (Nat.lt_succ_self _) (Nat.le_trans hw7.size (by omega)))); (try (have lt68 : w6.heap.size < w8.heap.size := Nat.lt_of_lt_of_le lt67 (by omega)))))
    all_goals
      have HO := hid ho8
      go_wp2
      go_meet
      refine ⟨_, A8, k8, ms8, rfl, rfl, ?_, HD8.out, hs8, ?_, ?_, ?_⟩
      · go_simp
      · first | (refine (HO.out.set ?_ _).rm; (first | (simp; done) | (simp; omega) | omega)) | (refine (HO.out.ext ?_).rm; exact (by repeat (first | with_reducible assumption | with_reducible exact Ext.refl _ | with_reducible apply Ext.drewN | with_reducible apply Ext.drew | with_reducible apply Ext.alloc | with_reducible refine Ext.set ?_ (by first | (simp; done) | (simp; omega)) _ | with_reducible refine Ext.next ?_ (by with_reducible assumption))))
      · first | (simp; done) | omega | (simp; omega)
      · exact (by repeat (first | with_reducible assumption | with_reducible exact Ext.refl _ | with_reducible apply Ext.drewN | with_reducible apply Ext.drew | with_reducible apply Ext.alloc | with_reducible refine Ext.set ?_ (by first | (simp; done) | (simp; omega)) _ | with_reducible refine Ext.next ?_ (by with_reducible assumption)))
  case rest =>
    obtain ⟨p, A10, k10, ms10, rfl, rfl, c10, hd10, hs10, hr10, hpl, hwp⟩ := hcut
    have HD10 := hid hd10
    have HR10 := hid hr10
    clear hd10 hr10
    replace c1 := keep (Ext.next (by repeat (first | with_reducible assumption | with_reducible exact Ext.refl _ | with_reducible apply Ext.drewN | with_reducible apply Ext.drew | with_reducible apply Ext.alloc | with_reducible refine Ext.set ?_ (by first | (simp; done) | (simp; omega)) _ | with_reducible refine Ext.next ?_ (by with_reducible assumption))) hwp) c1
    replace z1 := World.block_lt_of_cell? _ _ c1
    simp only at z1
    replace c5 := keep (Ext.next (by repeat (first | with_reducible assumption | with_reducible exact Ext.refl _ | with_reducible apply Ext.drewN | with_reducible apply Ext.drew | with_reducible apply Ext.alloc | with_reducible refine Ext.set ?_ (by first | (simp; done) | (simp; omega)) _ | with_reducible refine Ext.next ?_ (by with_reducible assumption))) hwp) c5
    replace z5 := World.block_lt_of_cell? _ _ c5
    simp only at z5
    have z10 := World.block_lt_of_cell? _ _ c10
    simp only at z10
    go_wp2_with fail
    refine (laWords_ _ _ xs _ (HX.out.ri.ext (by repeat (first | with_reducible assumption | with_reducible exact Ext.refl _ | with_reducible apply Ext.drewN | with_reducible apply Ext.drew | with_reducible apply Ext.alloc | with_reducible refine Ext.set ?_ (by first | (simp; done) | (simp; omega)) _ | with_reducible refine Ext.next ?_ (by with_reducible assumption)))) (by omega)).mono ?_
    rintro e w11 ⟨A11, k11, rfl, ho11, hw11⟩
    rw [HYS.out] at ho11 ⊢
    have HW := hid ho11
    clear ho11
    replace c1 := keep (Ext.next (by repeat (first | with_reducible assumption | with_reducible exact Ext.refl _ | with_reducible apply Ext.drewN | with_reducible apply Ext.drew | with_reducible apply Ext.alloc | with_reducible refine Ext.set ?_ (by first | (simp; done) | (simp; omega)) _ | with_reducible refine Ext.next ?_ (by with_reducible assumption))) hw11) c1
    replace z1 := World.block_lt_of_cell? _ _ c1
    simp only at z1
    replace c5 := keep (Ext.next (by repeat (first | with_reducible assumption | with_reducible exact Ext.refl _ | with_reducible apply Ext.drewN | with_reducible apply Ext.drew | with_reducible apply Ext.alloc | with_reducible refine Ext.set ?_ (by first | (simp; done) | (simp; omega)) _ | with_reducible refine Ext.next ?_ (by with_reducible assumption))) hw11) c5
    replace z5 := World.block_lt_of_cell? _ _ c5
    simp only at z5
    replace c10 := keep (Ext.next (by repeat (first | with_reducible assumption | with_reducible exact Ext.refl _ | with_reducible apply Ext.drewN | with_reducible apply Ext.drew | with_reducible apply Ext.alloc | with_reducible refine Ext.set ?_ (by first | (simp; done) | (simp; omega)) _ | with_reducible refine Ext.next ?_ (by with_reducible assumption))) hw11) c10
    replace z10 := World.block_lt_of_cell? _ _ c10
    simp only at z10
    have hfd := field_monos
    go_wp2
    go_region_held3 (fun w' => w'.cell? ⟨w1.heap.size, 0, none⟩ = some (.slice A1 ms1.length k1) ∧ w'.cell? ⟨w3.heap.size, 0, none⟩ = some (.slice A5 ms5.length k5) ∧ w'.cell? ⟨p, 0, none⟩ = some (.slice A10 ms10.length k10)) (refine ⟨?_, ?_, ?_⟩ <;> ((repeat (first | with_reducible assumption | with_reducible refine keep (Ext.alloc (Ext.refl _) _) ?_ | with_reducible refine keep (Ext.drew (Ext.refl _)) ?_ | with_reducible refine keep (Ext.drewN (Ext.refl _) _) ?_ | with_reducible refine keep (by with_reducible assumption) ?_)); done)) (first
      | (go_at_call_of 15 (Value.agg #[Value.slice A5 ms5.length k5]); (refine (laPoly_v _ _ _ _ ms5 ms10 _ (HP.out.rm.ext (by repeat (first | with_reducible assumption | with_reducible exact Ext.refl _ | with_reducible apply Ext.drewN | with_reducible apply Ext.drew | with_reducible apply Ext.alloc | with_reducible refine Ext.set ?_ (by first | (simp; done) | (simp; omega)) _ | with_reducible refine Ext.next ?_ (by with_reducible assumption)))) (HR10.out.ext (by repeat (first | with_reducible assumption | with_reducible exact Ext.refl _ | with_reducible apply Ext.drewN | with_reducible apply Ext.drew | with_reducible apply Ext.alloc | with_reducible refine Ext.set ?_ (by first | (simp; done) | (simp; omega)) _ | with_reducible refine Ext.next ?_ (by with_reducible assumption)))) hs5 hs10 (HD5.out.trans HD10.out.symm)).mono ?_); (rintro e w12 ⟨rfl, hw12⟩))
      | (go_at_call 19; (refine (implPolOk_v _ _ ms5 _ (HP.out.rm.ext (by repeat (first | with_reducible assumption | with_reducible exact Ext.refl _ | with_reducible apply Ext.drewN | with_reducible apply Ext.drew | with_reducible apply Ext.alloc | with_reducible refine Ext.set ?_ (by first | (simp; done) | (simp; omega)) _ | with_reducible refine Ext.next ?_ (by with_reducible assumption)))) hs5 (v := true) (by rw [HD5.out]; exact HDK.out)).mono ?_); (rintro e w13 ⟨rfl, hw13⟩))
      | (go_at_call_of 23 (Value.int .i64 1); (refine (implPolScale_v _ _ ms1 1 _ (HA.out.rn.ext (by repeat (first | with_reducible assumption | with_reducible exact Ext.refl _ | with_reducible apply Ext.drewN | with_reducible apply Ext.drew | with_reducible apply Ext.alloc | with_reducible refine Ext.set ?_ (by first | (simp; done) | (simp; omega)) _ | with_reducible refine Ext.next ?_ (by with_reducible assumption)))) hs1 HS1.out).mono ?_); (rintro e w14 ⟨A14, k14, ms14, rfl, hd14, hs14, ho14, hw14⟩); (have HD14 := hid hd14); (have HQ14 := hid ho14); clear hd14 ho14)
      | (go_at_call_of 15 (Value.agg #[Value.slice A14 ms14.length k14]); (refine (laPoly_v _ _ _ _ ms14 ms1 _ (HQ14.out.rm.ext (by repeat (first | with_reducible assumption | with_reducible exact Ext.refl _ | with_reducible apply Ext.drewN | with_reducible apply Ext.drew | with_reducible apply Ext.alloc | with_reducible refine Ext.set ?_ (by first | (simp; done) | (simp; omega)) _ | with_reducible refine Ext.next ?_ (by with_reducible assumption)))) (HA.out.rm.ext (by repeat (first | with_reducible assumption | with_reducible exact Ext.refl _ | with_reducible apply Ext.drewN | with_reducible apply Ext.drew | with_reducible apply Ext.alloc | with_reducible refine Ext.set ?_ (by first | (simp; done) | (simp; omega)) _ | with_reducible refine Ext.next ?_ (by with_reducible assumption)))) hs14 hs1 HD14.out).mono ?_); (rintro e w15 ⟨rfl, hw15⟩))
      | (go_at_call_of 23 (Value.int .i64 0); (refine (implPolScale_v _ _ ms1 0 _ (HA.out.rn.ext (by repeat (first | with_reducible assumption | with_reducible exact Ext.refl _ | with_reducible apply Ext.drewN | with_reducible apply Ext.drew | with_reducible apply Ext.alloc | with_reducible refine Ext.set ?_ (by first | (simp; done) | (simp; omega)) _ | with_reducible refine Ext.next ?_ (by with_reducible assumption)))) hs1 HS0.out).mono ?_); (rintro e w16 ⟨A16, k16, ms16, rfl, hd16, hs16, ho16, hw16⟩); (obtain rfl : ms16 = [] := List.map_eq_nil_iff.1 hd16); clear hd16 ho16)
      | (go_at_call_of 20 (Value.agg #[Value.slice A5 ms5.length k5]); (refine (implPolEval_v _ _ _ _ ys.length ms5 ys _ (HP.out.rm.ext (by repeat (first | with_reducible assumption | with_reducible exact Ext.refl _ | with_reducible apply Ext.drewN | with_reducible apply Ext.drew | with_reducible apply Ext.alloc | with_reducible refine Ext.set ?_ (by first | (simp; done) | (simp; omega)) _ | with_reducible refine Ext.next ?_ (by with_reducible assumption)))) hs5 (HW.out.ri.ext (by repeat (first | with_reducible assumption | with_reducible exact Ext.refl _ | with_reducible apply Ext.drewN | with_reducible apply Ext.drew | with_reducible apply Ext.alloc | with_reducible refine Ext.set ?_ (by first | (simp; done) | (simp; omega)) _ | with_reducible refine Ext.next ?_ (by with_reducible assumption)))) rfl (by omega) (v := e2) (by rw [HD5.out]; exact HE2.out)).mono ?_); (rintro e w17 ⟨rfl, hw17⟩))
      | (go_at_call_of 20 (Value.agg #[Value.slice A1 ms1.length k1]); (refine (implPolEval_v _ _ _ _ ys.length ms1 ys _ (HA.out.rm.ext (by repeat (first | with_reducible assumption | with_reducible exact Ext.refl _ | with_reducible apply Ext.drewN | with_reducible apply Ext.drew | with_reducible apply Ext.alloc | with_reducible refine Ext.set ?_ (by first | (simp; done) | (simp; omega)) _ | with_reducible refine Ext.next ?_ (by with_reducible assumption)))) hs1 (HW.out.ri.ext (by repeat (first | with_reducible assumption | with_reducible exact Ext.refl _ | with_reducible apply Ext.drewN | with_reducible apply Ext.drew | with_reducible apply Ext.alloc | with_reducible refine Ext.set ?_ (by first | (simp; done) | (simp; omega)) _ | with_reducible refine Ext.next ?_ (by with_reducible assumption)))) rfl (by omega) HE1.out).mono ?_); (rintro e w18 ⟨rfl, hw18⟩))
      | (go_at_call 21; (refine (specWrdDo_v 3 v e1 _ HWD.out).mono ?_); (rintro e w19 ⟨rfl, hw19⟩)))
    all_goals
      go_wp2
      go_ret
      exact ⟨rfl, (by repeat (first | with_reducible assumption | with_reducible exact Ext.refl _ | with_reducible apply Ext.drewN | with_reducible apply Ext.drew | with_reducible apply Ext.alloc | with_reducible refine Ext.set ?_ (by first | (simp; done) | (simp; omega)) _ | with_reducible refine Ext.next ?_ (by with_reducible assumption)))⟩

set_option maxRecDepth 100000 in
theorem lifted (os : Os) (started : os.Started) (H : Type) (enc : TypeId × Value → H) :
    ReturnsInHanded {} Try.checked os 4 .any (Rows.fnPolScaleSpec.pre6 enc Try.prog Try.f4 Rows.fnPolScaleRow.domain false) (Rows.fnPolScaleSpec.post enc Try.prog Try.f4 false true false false) := by
  refine returnsInHanded_of_change (C := Try.checked) ownKnob_ started (by kernel_rfl) Try.func4
    (ChangeSpec.witness6 (enc := enc) (C := Try.checked) false ⟨#[], #[.slice none 0 0, .slice none 0 0], []⟩ 8 (by kernel_rfl) (by kernel_rfl) (by kernel_rfl) (by kernel_rfl)) ?_
  intro W base args ds gs before hval0 hW hcnd _
  have hval : ∀ (j : Nat) t v, Try.f4.params[j]? = some t → args[j]? = some v → Value.okWide Try.prog W .any base t v := hval0
  have hW' := hW
  obtain ⟨p, q, hA0, hV, rfl, hfz, hnd⟩ := hW
  have hA : DataW.TrodAll enc Try.prog W 0 (fun _ => true) true Try.f4.params.toList args.toList ds p := hA0
  rw [Try.params4] at hA hval
  obtain ⟨v0, vs0, d0, ds0, p0, q0, hargs, rfl, rfl, g0, r0⟩ := trodAll_cons hA
  obtain ⟨v1, vs1, d1, ds1, p1, q1, rfl, rfl, rfl, g1, r1⟩ := trodAll_cons r0
  obtain ⟨rfl, rfl, rfl⟩ := trodAll_nil r1
  obtain rfl : args = #[v0, v1] := by cases args; simp_all
  obtain ⟨rfl, rfl⟩ := trodVars_none hV
  have lt0 : ∀ x ∈ p0, x.block < W.heap.size := by obtain ⟨m, hm⟩ := g0; exact DataW.trod_lt m _ _ _ hm
  obtain ⟨A0, k0, bs0, e0, h0, s0⟩ := read_bytes (hval 0 22 v0 rfl rfl) g0
  subst e0
  have lt1 : ∀ x ∈ p1, x.block < W.heap.size := by obtain ⟨m, hm⟩ := g1; exact DataW.trod_lt m _ _ _ hm
  obtain ⟨A1, k1, bs1, e1, h1, s1⟩ := read_bytes (hval 1 22 v1 rfl rfl) g1
  subst e1
  clear hA0 hval0
  refine (walk A0 k0 bs0 A1 k1 bs1 W h0 s0 h1 s1).mono fun e W' ⟨he, bel⟩ => ?_
  subst he
  exact ⟨_, rfl, _, _, _, [], _, [], hW', trodAll_mk1 (shut_bool Try.underlying4 _), (trodAll_cons_mk (Below.trod laidOut_ (by kernel_rfl) (of_decide_eq_true (by kernel_rfl)) g0 bel.out lt0) (trodAll_cons_mk (Below.trod laidOut_ (by kernel_rfl) (of_decide_eq_true (by kernel_rfl)) g1 bel.out lt1) trodAll_mk0)), rfl, bel.out.frame _, fun h => by cases h⟩
theorem cf0 : (fun (P : Program) (f : FuncId) (fn : Func) (s : ChangeSpec) (c : OpenClaim) => (c.wf (OpenSpec.ofChange s) : Bool)) Try.prog 4 Try.f4 Rows.fnPolScaleSpec Rows.fnPolScaleRow = true := by kernel_rfl
theorem cf3 : (fun (P : Program) (f : FuncId) (fn : Func) (s : ChangeSpec) (c : OpenClaim) => (fn.params.all (P.readableRec ·) : Bool)) Try.prog 4 Try.f4 Rows.fnPolScaleSpec Rows.fnPolScaleRow = true := by kernel_rfl
theorem cf4 : (fun (P : Program) (f : FuncId) (fn : Func) (s : ChangeSpec) (c : OpenClaim) => (namedTie P c.named s.vars : Bool)) Try.prog 4 Try.f4 Rows.fnPolScaleSpec Rows.fnPolScaleRow = true := by kernel_rfl
theorem cf5 : (fun (P : Program) (f : FuncId) (fn : Func) (s : ChangeSpec) (c : OpenClaim) => ((c.stops == []) : Bool)) Try.prog 4 Try.f4 Rows.fnPolScaleSpec Rows.fnPolScaleRow = true := by kernel_rfl
theorem cf7 : (fun (P : Program) (f : FuncId) (fn : Func) (s : ChangeSpec) (c : OpenClaim) => ((c.knobs == []) : Bool)) Try.prog 4 Try.f4 Rows.fnPolScaleSpec Rows.fnPolScaleRow = true := by kernel_rfl
theorem cf9 : (fun (P : Program) (f : FuncId) (fn : Func) (s : ChangeSpec) (c : OpenClaim) => ((c.inPlace == P.inPlace f) : Bool)) Try.prog 4 Try.f4 Rows.fnPolScaleSpec Rows.fnPolScaleRow = true := by kernel_rfl
theorem cf10 : (fun (P : Program) (f : FuncId) (fn : Func) (s : ChangeSpec) (c : OpenClaim) => ((c.unfollowed == P.unfollowed f) : Bool)) Try.prog 4 Try.f4 Rows.fnPolScaleSpec Rows.fnPolScaleRow = true := by kernel_rfl
theorem cf11 : (fun (P : Program) (f : FuncId) (fn : Func) (s : ChangeSpec) (c : OpenClaim) => ((c.recurses == P.recurses f) : Bool)) Try.prog 4 Try.f4 Rows.fnPolScaleSpec Rows.fnPolScaleRow = true := by kernel_rfl
theorem cf12 : (fun (P : Program) (f : FuncId) (fn : Func) (s : ChangeSpec) (c : OpenClaim) => ((c.named == P.varsNamed f) : Bool)) Try.prog 4 Try.f4 Rows.fnPolScaleSpec Rows.fnPolScaleRow = true := by kernel_rfl
theorem cf13 : (fun (P : Program) (f : FuncId) (fn : Func) (s : ChangeSpec) (c : OpenClaim) => ((c.maps == (fn.params.toList ++ s.plain.varTypes P).any (P.mapsRec ·)) : Bool)) Try.prog 4 Try.f4 Rows.fnPolScaleSpec Rows.fnPolScaleRow = true := by kernel_rfl
theorem cf14 : (fun (P : Program) (f : FuncId) (fn : Func) (s : ChangeSpec) (c : OpenClaim) => ((c.ifaces == (fn.params.toList ++ s.plain.varTypes P).any (P.ifacesRec ·)) : Bool)) Try.prog 4 Try.f4 Rows.fnPolScaleSpec Rows.fnPolScaleRow = true := by kernel_rfl
theorem cf15 : (fun (P : Program) (f : FuncId) (fn : Func) (s : ChangeSpec) (c : OpenClaim) => ((c.mapsOut == P.mapsAmong fn.resultTypes.toList) : Bool)) Try.prog 4 Try.f4 Rows.fnPolScaleSpec Rows.fnPolScaleRow = true := by kernel_rfl
theorem cf16 : (fun (P : Program) (f : FuncId) (fn : Func) (s : ChangeSpec) (c : OpenClaim) => ((c.loops == (fn.params.toList ++ s.plain.varTypes P).any (P.loopsFrom ·)) : Bool)) Try.prog 4 Try.f4 Rows.fnPolScaleSpec Rows.fnPolScaleRow = true := by kernel_rfl
theorem cf17 : (fun (P : Program) (f : FuncId) (fn : Func) (s : ChangeSpec) (c : OpenClaim) => ((c.wideKeys == (fn.params.toList ++ s.plain.varTypes P ++ fn.resultTypes.toList).any (P.wideKeysFrom ·)) : Bool)) Try.prog 4 Try.f4 Rows.fnPolScaleSpec Rows.fnPolScaleRow = true := by kernel_rfl
theorem cf18 : (fun (P : Program) (f : FuncId) (fn : Func) (s : ChangeSpec) (c : OpenClaim) => (s.vars.all (P.varReadable ·) : Bool)) Try.prog 4 Try.f4 Rows.fnPolScaleSpec Rows.fnPolScaleRow = true := by kernel_rfl
theorem cf19 : (fun (P : Program) (f : FuncId) (fn : Func) (s : ChangeSpec) (c : OpenClaim) => (fn.resultTypes.all (fun t => P.readableRec t && decide (t < P.types.size)) : Bool)) Try.prog 4 Try.f4 Rows.fnPolScaleSpec Rows.fnPolScaleRow = true := by kernel_rfl
theorem cf20 : (fun (P : Program) (f : FuncId) (fn : Func) (s : ChangeSpec) (c : OpenClaim) => ((c.ifacesOut == fn.resultTypes.toList.any (P.ifacesRec ·)) : Bool)) Try.prog 4 Try.f4 Rows.fnPolScaleSpec Rows.fnPolScaleRow = true := by kernel_rfl
theorem cf21 : (fun (P : Program) (f : FuncId) (fn : Func) (s : ChangeSpec) (c : OpenClaim) => ((c.loopsOut == fn.resultTypes.toList.any (P.loopsFrom ·)) : Bool)) Try.prog 4 Try.f4 Rows.fnPolScaleSpec Rows.fnPolScaleRow = true := by kernel_rfl
theorem cf23 : (fun (P : Program) (f : FuncId) (fn : Func) (s : ChangeSpec) (c : OpenClaim) => (c.shortTexts.isNone : Bool)) Try.prog 4 Try.f4 Rows.fnPolScaleSpec Rows.fnPolScaleRow = true := by kernel_rfl
theorem cf28 : (fun (P : Program) (f : FuncId) (fn : Func) (s : ChangeSpec) (c : OpenClaim) => ((c.kinds == (if c.domain.isEmpty then [] else fn.params.toList.map fun t => match P.underlying t with | some (.int k) => some k | _ => none)) : Bool)) Try.prog 4 Try.f4 Rows.fnPolScaleSpec Rows.fnPolScaleRow = true := by kernel_rfl
theorem cf29 : (fun (P : Program) (f : FuncId) (fn : Func) (s : ChangeSpec) (c : OpenClaim) => ((c.pinned == c.pinnedBy) : Bool)) Try.prog 4 Try.f4 Rows.fnPolScaleSpec Rows.fnPolScaleRow = true := by kernel_rfl
theorem cf30 : (fun (P : Program) (f : FuncId) (fn : Func) (s : ChangeSpec) (c : OpenClaim) => ((c.veiled == (fn.params.toList ++ s.plain.varTypes P ++ fn.resultTypes.toList).any (P.veiledRec ·)) : Bool)) Try.prog 4 Try.f4 Rows.fnPolScaleSpec Rows.fnPolScaleRow = true := by kernel_rfl
theorem cf31 : (fun (P : Program) (f : FuncId) (fn : Func) (s : ChangeSpec) (c : OpenClaim) => (c.veiledFits P fn.params.toList (fn.params.toList ++ s.plain.varTypes P ++ fn.resultTypes.toList) : Bool)) Try.prog 4 Try.f4 Rows.fnPolScaleSpec Rows.fnPolScaleRow = true := by kernel_rfl

set_option maxRecDepth 100000 in
theorem closed : joinedFacts Try.prog 4 Try.f4 Rows.fnPolScaleSpec Rows.fnPolScaleRow = true := by
  unfold joinedFacts
  exact (band (band (band (band (band (band (band (band (band (band (band (band (band (band (band (band (band (band (band (band (band (band (band (band (band (band (band (band (band (band (band cf0 pf1) pf2) cf3) cf4) cf5) pf6) cf7) pf8) cf9) cf10) cf11) cf12) cf13) cf14) cf15) cf16) cf17) cf18) cf19) cf20) cf21) pf22) cf23) pf24) pf25) pf26) pf27) cf28) cf29) cf30) cf31)
theorem inst : Try.f4.isInstance Try.prog Rows.fnPolScaleRow.origin Rows.fnPolScaleRow.targs := of_decide_eq_true (by kernel_rfl)
theorem wrap_ : Try.f4.isWrapper Try.prog Rows.fnPolScaleRow.wrapper Rows.fnPolScaleRow.mainSum := by
  unfold Func.isWrapper
  rw [if_neg (by decide +kernel)]
  exact ⟨rfl, rfl⟩

theorem over : Rows.fnPolScaleRow.holds Try.pinned (OpenSpec.ofChange Rows.fnPolScaleSpec) :=
  OpenClaim.holds_of_wide 4 Try.f4 rfl rfl rfl rfl rfl rfl rfl ⟨rfl, rfl, rfl, rfl, rfl⟩ rfl rfl rfl rfl rfl (by as_aux_lemma => kernel_rfl) Try.func4 closed inst wrap_
    (fun os started H enc _ => lifted os started H enc)

theorem proved : Rows.FnPolScaleSaid := over
#print axioms proved
end Go.Proofs.Ytcgelcaepkakaaa.fnPolScale
