/- The law FnPolFit: PolAdd is true where both have no more parts than PolMost together; PolMul where so many times so many are no more and no two parts have more atoms than PolDeg together. Conditions: none. -/
import Derived.Test.YtmlegiifceangaaRows
import Derived.WalkKit
import Derived.ProofKit
import Derived.OpenShut
import Derived.ShutString
import Derived.ChangeOld
import Derived.Below
import Derived.Carry
import Derived.Test.YtmlegiifceangaaF
import Derived.Test.YtmlegiifceangaaK
import Derived.Test.YtmlegiifceangaaPU
import Derived.Test.YtmlegiifceangaaPH
import Derived.Deep.RegionHeld3
import Derived.Deep.Cut
import Derived.Deep.CutRange
import Derived.Deep.DeepCutAuto
namespace Go.Proofs.Ytmlegiifceangaa.fnPolFit
open Go.ChangeShapes Go.WideShapes Go.ChangeAt Go.RowKit
set_option linter.unusedVariables false
set_option linter.unusedSimpArgs false

theorem specPolOk_v (A : Option Addr) (k : Nat) (ms : List Mn) (w : World) (h : RM 86 3 w A ms) (hs : SzM ms) {v : Bool} (hv : polOk (ms.map Mn.dat) = v) :
    Calls Try.prog 29 #[.agg #[.slice A ms.length k]] w fun e w' => e = .returned (.bool v) ∧ Ext w w' := by
  subst hv
  exact specPolOk A k ms w h hs
theorem laDeg_v (A : Option Addr) (k : Nat) (ms : List Mn) (w : World) (h : RM 86 3 w A ms) (hs : SzM ms) {n : Nat} (hv : degP (ms.map Mn.dat) = n) :
    Calls Try.prog 74 #[.agg #[.slice A ms.length k]] w fun e w' => e = .returned (.int .i64 n) ∧ Ext w w' := by
  subst hv
  exact laDeg_ A k ms w h hs
theorem q_true {P : Nat} (h : ¬ P ≤ 12) : decide ((12 : Int) < (P : Int)) = true := decide_eq_true (by omega)
theorem q_false {P : Nat} (h : P ≤ 12) : decide ((12 : Int) < (P : Int)) = false := decide_eq_false (by omega)
theorem j_true {a b : Nat} (h : ¬ a + b ≤ 4) : decide ((4 : Int) < (a : Int) + (b : Int)) = true := decide_eq_true (by omega)
theorem j_false {a b : Nat} (h : a + b ≤ 4) : decide ((4 : Int) < (a : Int) + (b : Int)) = false := decide_eq_false (by omega)
theorem wrap_small {P : Nat} (h : P ≤ 144) : wrap64 (P : Int) = (P : Int) := by unfold wrap64; omega
theorem degP_small {ms : List Mn} (h : polOk (ms.map Mn.dat) = true) : degP (ms.map Mn.dat) ≤ 4 := by
  have hd : ∀ (p : List Mono) (n : Nat), n ≤ 4 → (∀ m ∈ p, m.2.length ≤ 4) → p.foldl (fun n m => max n m.2.length) n ≤ 4 := by
    intro p
    induction p with
    | nil => intro n hn _; exact hn
    | cons a l ih => intro n hn hp; exact ih _ (Nat.max_le.2 ⟨hn, hp a (List.mem_cons_self ..)⟩) (fun m hm => hp m (List.mem_cons_of_mem _ hm))
  exact hd _ 0 (by omega) fun m hm => polOk_deg h hm

set_option maxRecDepth 100000 in
set_option maxHeartbeats 2000000 in
theorem walk (A0 : Option Addr) (k0 : Nat) (bs0 : List Int) (A1 : Option Addr) (k1 : Nat) (bs1 : List Int) (w : World) (h0 : AB w A0 bs0) (s0 : bs0.length ≤ 9223372036854775807 ∧ bs0.length ≤ k0) (h1 : AB w A1 bs1) (s1 : bs1.length ≤ 9223372036854775807 ∧ bs1.length ≤ k1) :
    Calls Try.prog 21 #[.slice A0 bs0.length k0, .slice A1 bs1.length k1] w fun e w' => e = .returned (.bool true) ∧ Ext w w' := by
  by_cases hz : (1048576 : Int) < bs0.length
  · go_enter Try.func21, Try.ntmps21
    go_wp2
    go_ret
    exact ⟨rfl, (by repeat (first | with_reducible assumption | with_reducible exact Ext.refl _ | with_reducible apply Ext.drewN | with_reducible apply Ext.drew | with_reducible apply Ext.alloc | with_reducible refine Ext.set ?_ (by first | (simp; done) | (simp; omega)) _ | with_reducible refine Ext.next ?_ (by with_reducible assumption)))⟩
  by_cases hy : (1048576 : Int) < bs1.length
  · go_enter Try.func21, Try.ntmps21
    go_wp2
    go_ret
    exact ⟨rfl, (by repeat (first | with_reducible assumption | with_reducible exact Ext.refl _ | with_reducible apply Ext.drewN | with_reducible apply Ext.drew | with_reducible apply Ext.alloc | with_reducible refine Ext.set ?_ (by first | (simp; done) | (simp; omega)) _ | with_reducible refine Ext.next ?_ (by with_reducible assumption)))⟩
  go_enter Try.func21, Try.ntmps21
  go_wp2_with fail
  refine (drawAdd _ _ _ _ h0 s0.1 s0.2).mono ?_
  rintro e w1 ⟨A1, k1, ms1, A2, k2, ms2, rfl, G1, G2, hw1⟩
  go_wp2_with fail
  refine (drawMul _ _ _ _ (h1.ext (by repeat (first | with_reducible assumption | with_reducible exact Ext.refl _ | with_reducible apply Ext.drewN | with_reducible apply Ext.drew | with_reducible apply Ext.alloc | with_reducible refine Ext.set ?_ (by first | (simp; done) | (simp; omega)) _ | with_reducible refine Ext.next ?_ (by with_reducible assumption)))) s1.1 s1.2).mono ?_
  rintro e w2 ⟨A3, k3, ms3, A4, k4, ms4, rfl, G3, G4, hw2⟩
  have hs1 := G1.szM
  have hs2 := G2.szM
  have hs3 := G3.szM
  have hs4 := G4.szM
  have HA := hid G1
  have HB := hid G2
  have HC := hid G3
  have HD := hid G4
  clear G1 G2 G3 G4
  have c1 : w2.cell? ⟨w1.heap.size, 0, none⟩ = some (.slice A1 ms1.length k1) := keep hw2 (by go_simp)
  have c2 : w2.cell? ⟨w1.heap.size + 1, 0, none⟩ = some (.slice A2 ms2.length k2) := keep hw2 (by go_simp)
  have z2 := World.block_lt_of_cell? _ _ c2
  simp only at z2
  have z1 : w1.heap.size < w2.heap.size := by omega
  go_upto_region 5 with fail
  go_cut [46] (fun b wx => ∃ v : Bool, b = .bool v ∧ (v = true → polOk (ms1.map Mn.dat) = true ∧ polOk (ms2.map Mn.dat) = true ∧ ms1.length + ms2.length ≤ 12) ∧ Ext w2 wx ∧ wx.cell? ⟨w2.heap.size, 0, none⟩ = some (.slice A3 ms3.length k3) ∧ wx.cell? ⟨w2.heap.size + 1, 0, none⟩ = some (.slice A4 ms4.length k4))
  case first =>
    cases k1c : polOk (ms1.map Mn.dat)
    · have HK1 := hid k1c
      clear k1c
      go_wp2_with fail
      refine (specPolOk_v _ _ ms1 _ (HA.out.rm.ext (by repeat (first | with_reducible assumption | with_reducible exact Ext.refl _ | with_reducible apply Ext.drewN | with_reducible apply Ext.drew | with_reducible apply Ext.alloc | with_reducible refine Ext.set ?_ (by first | (simp; done) | (simp; omega)) _ | with_reducible refine Ext.next ?_ (by with_reducible assumption)))) hs1 HK1.out).mono ?_
      rintro e w3 ⟨rfl, hw3⟩
      have c3 : w3.cell? ⟨w2.heap.size, 0, none⟩ = some (.slice A3 ms3.length k3) := keep hw3 (by go_simp)
      have c4 : w3.cell? ⟨w2.heap.size + 1, 0, none⟩ = some (.slice A4 ms4.length k4) := keep hw3 (by go_simp)
      go_wp2_with fail
      go_meet
      exact ⟨false, rfl, (fun h => by cases h), (by repeat (first | with_reducible assumption | with_reducible exact Ext.refl _ | with_reducible apply Ext.drewN | with_reducible apply Ext.drew | with_reducible apply Ext.alloc | with_reducible refine Ext.set ?_ (by first | (simp; done) | (simp; omega)) _ | with_reducible refine Ext.next ?_ (by with_reducible assumption))), c3, c4⟩
    cases k2c : polOk (ms2.map Mn.dat)
    all_goals
      have HK1 := hid k1c
      have HK2 := hid k2c
      clear k1c k2c
      have n1 := HA.out.sz.1
      have n2 := HB.out.sz.1
      go_wp2_with fail
      refine (specPolOk_v _ _ ms1 _ (HA.out.rm.ext (by repeat (first | with_reducible assumption | with_reducible exact Ext.refl _ | with_reducible apply Ext.drewN | with_reducible apply Ext.drew | with_reducible apply Ext.alloc | with_reducible refine Ext.set ?_ (by first | (simp; done) | (simp; omega)) _ | with_reducible refine Ext.next ?_ (by with_reducible assumption)))) hs1 HK1.out).mono ?_
      rintro e w5 ⟨rfl, hw5⟩
      have b1 : w5.cell? ⟨w1.heap.size, 0, none⟩ = some (.slice A1 ms1.length k1) := keep hw5 (by go_simp)
      have b2 : w5.cell? ⟨w1.heap.size + 1, 0, none⟩ = some (.slice A2 ms2.length k2) := keep hw5 (by go_simp)
      have b3 : w5.cell? ⟨w2.heap.size, 0, none⟩ = some (.slice A3 ms3.length k3) := keep hw5 (by go_simp)
      have b4 : w5.cell? ⟨w2.heap.size + 1, 0, none⟩ = some (.slice A4 ms4.length k4) := keep hw5 (by go_simp)
      go_wp2_with fail
      refine (specPolOk_v _ _ ms2 _ (HB.out.rm.ext (by repeat (first | with_reducible assumption | with_reducible exact Ext.refl _ | with_reducible apply Ext.drewN | with_reducible apply Ext.drew | with_reducible apply Ext.alloc | with_reducible refine Ext.set ?_ (by first | (simp; done) | (simp; omega)) _ | with_reducible refine Ext.next ?_ (by with_reducible assumption)))) hs2 HK2.out).mono ?_
      rintro e w3 ⟨rfl, hw3⟩
      replace b1 := keep hw3 b1
      replace b2 := keep hw3 b2
      replace b3 := keep hw3 b3
      replace b4 := keep hw3 b4
      go_wp2_with fail
      go_meet
      first
        | exact ⟨false, rfl, (fun h => by cases h), (by repeat (first | with_reducible assumption | with_reducible exact Ext.refl _ | with_reducible apply Ext.drewN | with_reducible apply Ext.drew | with_reducible apply Ext.alloc | with_reducible refine Ext.set ?_ (by first | (simp; done) | (simp; omega)) _ | with_reducible refine Ext.next ?_ (by with_reducible assumption))), b3, b4⟩
        | exact ⟨_, rfl, (fun h => ⟨HK1.out, HK2.out, by have := of_decide_eq_true h; omega⟩), (by repeat (first | with_reducible assumption | with_reducible exact Ext.refl _ | with_reducible apply Ext.drewN | with_reducible apply Ext.drew | with_reducible apply Ext.alloc | with_reducible refine Ext.set ?_ (by first | (simp; done) | (simp; omega)) _ | with_reducible refine Ext.next ?_ (by with_reducible assumption))), b3, b4⟩
  case rest =>
    obtain ⟨v, rfl, hv, hwc, c3, c4⟩ := hcut
    obtain ⟨w3, rfl⟩ : ∃ w3, w3 = wc := ⟨_, rfl⟩
    have HV := hid hv
    have y4 := World.block_lt_of_cell? _ _ c4
    simp only at y4
    have y3 : w2.heap.size < w3.heap.size := by omega
    have b1 := keep hwc c1
    have b2 := keep hwc c2
    have x1 : w1.heap.size < w3.heap.size := by omega
    have x2 : w1.heap.size + 1 < w3.heap.size := by omega
    clear hv c1 c2 z1 z2
    go_upto_if 46 with fail
    go_cut [10] (fun b wx => Ext w3 wx)
    case first =>
      cases v
      · go_wp2_with fail
        go_meet
        exact (by repeat (first | with_reducible assumption | with_reducible exact Ext.refl _ | with_reducible apply Ext.drewN | with_reducible apply Ext.drew | with_reducible apply Ext.alloc | with_reducible refine Ext.set ?_ (by first | (simp; done) | (simp; omega)) _ | with_reducible refine Ext.next ?_ (by with_reducible assumption)))
      · obtain ⟨k1c, k2c, hl⟩ := HV.out rfl
        have HL := hid (fit_add k1c k2c (by rw [List.length_map, List.length_map]; exact hl))
        clear k1c k2c
        go_wp2_with fail
        refine (implPolAdd _ _ _ _ ms1 ms2 _ (HA.out.rn.ext (by repeat (first | with_reducible assumption | with_reducible exact Ext.refl _ | with_reducible apply Ext.drewN | with_reducible apply Ext.drew | with_reducible apply Ext.alloc | with_reducible refine Ext.set ?_ (by first | (simp; done) | (simp; omega)) _ | with_reducible refine Ext.next ?_ (by with_reducible assumption)))) (HB.out.rn.ext (by repeat (first | with_reducible assumption | with_reducible exact Ext.refl _ | with_reducible apply Ext.drewN | with_reducible apply Ext.drew | with_reducible apply Ext.alloc | with_reducible refine Ext.set ?_ (by first | (simp; done) | (simp; omega)) _ | with_reducible refine Ext.next ?_ (by with_reducible assumption)))) hs1 hs2).mono ?_
        rintro e w6 ⟨A6, k6, ms6, rfl, hd6, ho6, hw6⟩
        rw [HL.out]
        clear hd6 ho6
        go_wp2_with fail
        go_meet
        exact (by repeat (first | with_reducible assumption | with_reducible exact Ext.refl _ | with_reducible apply Ext.drewN | with_reducible apply Ext.drew | with_reducible apply Ext.alloc | with_reducible refine Ext.set ?_ (by first | (simp; done) | (simp; omega)) _ | with_reducible refine Ext.next ?_ (by with_reducible assumption)))
    case rest =>
      replace c3 := keep hcut c3
      replace c4 := keep hcut c4
      replace y4 := World.block_lt_of_cell? _ _ c4
      simp only at y4
      replace y3 : w2.heap.size < wc.heap.size := by omega
      have hwd : Ext w wc := (by repeat (first | with_reducible assumption | with_reducible exact Ext.refl _ | with_reducible apply Ext.drewN | with_reducible apply Ext.drew | with_reducible apply Ext.alloc | with_reducible refine Ext.set ?_ (by first | (simp; done) | (simp; omega)) _ | with_reducible refine Ext.next ?_ (by with_reducible assumption)))
      have HC2 := hid (HC.out.ext (hwc.next hcut))
      have HD2 := hid (HD.out.ext (hwc.next hcut))
      clear HA HB HC HD hs1 hs2 b1 b2 x1 x2 hw1 hw2 hwc hcut HV
      have HC := HC2
      have HD := HD2
      clear HC2 HD2
      cases k3c : polOk (ms3.map Mn.dat)
      · have HK3 := hid k3c
        clear k3c
        go_wp2
        refine wp_region_over (by kernel_rfl) (by kernel_rfl) ?_
        repeat (go_big_quiet_step ((go_at_call_of 29 (Value.agg #[Value.slice A3 ms3.length k3]); exact calls_over (specPolOk_v _ _ ms3 _ ((HC.out.rm.ext (by repeat (first | with_reducible assumption | with_reducible exact Ext.refl _ | with_reducible apply Ext.drewN | with_reducible apply Ext.drew | with_reducible apply Ext.alloc | with_reducible refine Ext.set ?_ (by first | (simp; done) | (simp; omega)) _ | with_reducible refine Ext.next ?_ (by with_reducible assumption)))).ext (Over.ext _)) hs3 HK3.out))))
        refine wpQuiet_nil ?_
        rintro wq ⟨⟨_, hwq⟩, rfl⟩
        go_wp2_with (go_at_call 30; refine (laOk_ _).mono ?_; rintro e w' ⟨rfl, rfl⟩)
        go_ret
        exact ⟨rfl, (by repeat (first | with_reducible assumption | with_reducible exact Ext.refl _ | with_reducible apply Ext.drewN | with_reducible apply Ext.drew | with_reducible apply Ext.alloc | with_reducible refine Ext.set ?_ (by first | (simp; done) | (simp; omega)) _ | with_reducible refine Ext.next ?_ (by with_reducible assumption)))⟩
      cases k4c : polOk (ms4.map Mn.dat)
      · have HK3 := hid k3c
        have HK4 := hid k4c
        clear k3c k4c
        go_wp2
        refine wp_region_over (by kernel_rfl) (by kernel_rfl) ?_
        repeat (go_big_quiet_step ((first | (go_at_call_of 29 (Value.agg #[Value.slice A3 ms3.length k3]); exact calls_over (specPolOk_v _ _ ms3 _ ((HC.out.rm.ext (by repeat (first | with_reducible assumption | with_reducible exact Ext.refl _ | with_reducible apply Ext.drewN | with_reducible apply Ext.drew | with_reducible apply Ext.alloc | with_reducible refine Ext.set ?_ (by first | (simp; done) | (simp; omega)) _ | with_reducible refine Ext.next ?_ (by with_reducible assumption)))).ext (Over.ext _)) hs3 HK3.out)) | (go_at_call_of 29 (Value.agg #[Value.slice A4 ms4.length k4]); exact calls_over (specPolOk_v _ _ ms4 _ ((HD.out.rm.ext (by repeat (first | with_reducible assumption | with_reducible exact Ext.refl _ | with_reducible apply Ext.drewN | with_reducible apply Ext.drew | with_reducible apply Ext.alloc | with_reducible refine Ext.set ?_ (by first | (simp; done) | (simp; omega)) _ | with_reducible refine Ext.next ?_ (by with_reducible assumption)))).ext (Over.ext _)) hs4 HK4.out)))))
        refine wpQuiet_nil ?_
        rintro wq ⟨⟨_, hwq⟩, rfl⟩
        go_wp2_with (go_at_call 30; refine (laOk_ _).mono ?_; rintro e w' ⟨rfl, rfl⟩)
        go_ret
        exact ⟨rfl, (by repeat (first | with_reducible assumption | with_reducible exact Ext.refl _ | with_reducible apply Ext.drewN | with_reducible apply Ext.drew | with_reducible apply Ext.alloc | with_reducible refine Ext.set ?_ (by first | (simp; done) | (simp; omega)) _ | with_reducible refine Ext.next ?_ (by with_reducible assumption)))⟩
      have l3 := (ok_small k3c).1
      have l4 := (ok_small k4c).1
      have HK3 := hid k3c
      have HK4 := hid k4c
      obtain ⟨P, hP⟩ : ∃ P : Nat, ms3.length * ms4.length = P := ⟨_, rfl⟩
      have hPi : (ms3.length : Int) * (ms4.length : Int) = (P : Int) := by rw [← hP]; simp
      have hPb : P ≤ 144 := by rw [← hP]; exact Nat.le_trans (Nat.mul_le_mul l3 l4) (by decide)
      have hPw : wrap64 (P : Int) = (P : Int) := wrap_small hPb
      by_cases hp : P ≤ 12
      rotate_left
      · have hQ : decide ((12 : Int) < (P : Int)) = true := q_true hp
        clear k3c k4c hP
        go_wp2
        refine wp_region_over (by kernel_rfl) (by kernel_rfl) ?_
        repeat (go_big_quiet_step ((first | (go_at_call_of 29 (Value.agg #[Value.slice A3 ms3.length k3]); exact calls_over (specPolOk_v _ _ ms3 _ ((HC.out.rm.ext (by repeat (first | with_reducible assumption | with_reducible exact Ext.refl _ | with_reducible apply Ext.drewN | with_reducible apply Ext.drew | with_reducible apply Ext.alloc | with_reducible refine Ext.set ?_ (by first | (simp; done) | (simp; omega)) _ | with_reducible refine Ext.next ?_ (by with_reducible assumption)))).ext (Over.ext _)) hs3 HK3.out)) | (go_at_call_of 29 (Value.agg #[Value.slice A4 ms4.length k4]); exact calls_over (specPolOk_v _ _ ms4 _ ((HD.out.rm.ext (by repeat (first | with_reducible assumption | with_reducible exact Ext.refl _ | with_reducible apply Ext.drewN | with_reducible apply Ext.drew | with_reducible apply Ext.alloc | with_reducible refine Ext.set ?_ (by first | (simp; done) | (simp; omega)) _ | with_reducible refine Ext.next ?_ (by with_reducible assumption)))).ext (Over.ext _)) hs4 HK4.out)))))
        refine wpQuiet_nil ?_
        rintro wq ⟨⟨_, hwq⟩, rfl⟩
        go_wp2_with (go_at_call 30; refine (laOk_ _).mono ?_; rintro e w' ⟨rfl, rfl⟩)
        go_ret
        exact ⟨rfl, (by repeat (first | with_reducible assumption | with_reducible exact Ext.refl _ | with_reducible apply Ext.drewN | with_reducible apply Ext.drew | with_reducible apply Ext.alloc | with_reducible refine Ext.set ?_ (by first | (simp; done) | (simp; omega)) _ | with_reducible refine Ext.next ?_ (by with_reducible assumption)))⟩
      obtain ⟨g3, hg3⟩ : ∃ g, degP (ms3.map Mn.dat) = g := ⟨_, rfl⟩
      obtain ⟨g4, hg4⟩ : ∃ g, degP (ms4.map Mn.dat) = g := ⟨_, rfl⟩
      have hQ : decide ((12 : Int) < (P : Int)) = false := q_false hp
      have hb3 : g3 ≤ 4 := by rw [← hg3]; exact degP_small k3c
      have hb4 : g4 ≤ 4 := by rw [← hg4]; exact degP_small k4c
      have HG3 := hid hg3
      have HG4 := hid hg4
      have HF := hid (fun h => fit_mul k3c k4c (by rw [List.length_map, List.length_map, hP]; exact hp) (by rw [hg3, hg4]; exact h))
      clear k3c k4c hP hg3 hg4
      by_cases hg : g3 + g4 ≤ 4
      rotate_left
      · have hJ : decide ((4 : Int) < (g3 : Int) + (g4 : Int)) = true := j_true hg
        go_wp2
        refine wp_region_over (by kernel_rfl) (by kernel_rfl) ?_
        repeat (go_big_quiet_step ((first | (go_at_call_of 29 (Value.agg #[Value.slice A3 ms3.length k3]); exact calls_over (specPolOk_v _ _ ms3 _ ((HC.out.rm.ext (by repeat (first | with_reducible assumption | with_reducible exact Ext.refl _ | with_reducible apply Ext.drewN | with_reducible apply Ext.drew | with_reducible apply Ext.alloc | with_reducible refine Ext.set ?_ (by first | (simp; done) | (simp; omega)) _ | with_reducible refine Ext.next ?_ (by with_reducible assumption)))).ext (Over.ext _)) hs3 HK3.out)) | (go_at_call_of 29 (Value.agg #[Value.slice A4 ms4.length k4]); exact calls_over (specPolOk_v _ _ ms4 _ ((HD.out.rm.ext (by repeat (first | with_reducible assumption | with_reducible exact Ext.refl _ | with_reducible apply Ext.drewN | with_reducible apply Ext.drew | with_reducible apply Ext.alloc | with_reducible refine Ext.set ?_ (by first | (simp; done) | (simp; omega)) _ | with_reducible refine Ext.next ?_ (by with_reducible assumption)))).ext (Over.ext _)) hs4 HK4.out)) | (go_at_call_of 74 (Value.agg #[Value.slice A3 ms3.length k3]); exact calls_over (laDeg_v _ _ ms3 _ ((HC.out.rm.ext (by repeat (first | with_reducible assumption | with_reducible exact Ext.refl _ | with_reducible apply Ext.drewN | with_reducible apply Ext.drew | with_reducible apply Ext.alloc | with_reducible refine Ext.set ?_ (by first | (simp; done) | (simp; omega)) _ | with_reducible refine Ext.next ?_ (by with_reducible assumption)))).ext (Over.ext _)) hs3 HG3.out)) | (go_at_call_of 74 (Value.agg #[Value.slice A4 ms4.length k4]); exact calls_over (laDeg_v _ _ ms4 _ ((HD.out.rm.ext (by repeat (first | with_reducible assumption | with_reducible exact Ext.refl _ | with_reducible apply Ext.drewN | with_reducible apply Ext.drew | with_reducible apply Ext.alloc | with_reducible refine Ext.set ?_ (by first | (simp; done) | (simp; omega)) _ | with_reducible refine Ext.next ?_ (by with_reducible assumption)))).ext (Over.ext _)) hs4 HG4.out)))))
        refine wpQuiet_nil ?_
        rintro wq ⟨⟨_, hwq⟩, rfl⟩
        go_wp2_with (go_at_call 30; refine (laOk_ _).mono ?_; rintro e w' ⟨rfl, rfl⟩)
        go_ret
        exact ⟨rfl, (by repeat (first | with_reducible assumption | with_reducible exact Ext.refl _ | with_reducible apply Ext.drewN | with_reducible apply Ext.drew | with_reducible apply Ext.alloc | with_reducible refine Ext.set ?_ (by first | (simp; done) | (simp; omega)) _ | with_reducible refine Ext.next ?_ (by with_reducible assumption)))⟩
      have hJ : decide ((4 : Int) < (g3 : Int) + (g4 : Int)) = false := j_false hg
      go_wp2
      refine wp_region_over (by kernel_rfl) (by kernel_rfl) ?_
      repeat (go_big_quiet_step ((first | (go_at_call_of 29 (Value.agg #[Value.slice A3 ms3.length k3]); exact calls_over (specPolOk_v _ _ ms3 _ ((HC.out.rm.ext (by repeat (first | with_reducible assumption | with_reducible exact Ext.refl _ | with_reducible apply Ext.drewN | with_reducible apply Ext.drew | with_reducible apply Ext.alloc | with_reducible refine Ext.set ?_ (by first | (simp; done) | (simp; omega)) _ | with_reducible refine Ext.next ?_ (by with_reducible assumption)))).ext (Over.ext _)) hs3 HK3.out)) | (go_at_call_of 29 (Value.agg #[Value.slice A4 ms4.length k4]); exact calls_over (specPolOk_v _ _ ms4 _ ((HD.out.rm.ext (by repeat (first | with_reducible assumption | with_reducible exact Ext.refl _ | with_reducible apply Ext.drewN | with_reducible apply Ext.drew | with_reducible apply Ext.alloc | with_reducible refine Ext.set ?_ (by first | (simp; done) | (simp; omega)) _ | with_reducible refine Ext.next ?_ (by with_reducible assumption)))).ext (Over.ext _)) hs4 HK4.out)) | (go_at_call_of 74 (Value.agg #[Value.slice A3 ms3.length k3]); exact calls_over (laDeg_v _ _ ms3 _ ((HC.out.rm.ext (by repeat (first | with_reducible assumption | with_reducible exact Ext.refl _ | with_reducible apply Ext.drewN | with_reducible apply Ext.drew | with_reducible apply Ext.alloc | with_reducible refine Ext.set ?_ (by first | (simp; done) | (simp; omega)) _ | with_reducible refine Ext.next ?_ (by with_reducible assumption)))).ext (Over.ext _)) hs3 HG3.out)) | (go_at_call_of 74 (Value.agg #[Value.slice A4 ms4.length k4]); exact calls_over (laDeg_v _ _ ms4 _ ((HD.out.rm.ext (by repeat (first | with_reducible assumption | with_reducible exact Ext.refl _ | with_reducible apply Ext.drewN | with_reducible apply Ext.drew | with_reducible apply Ext.alloc | with_reducible refine Ext.set ?_ (by first | (simp; done) | (simp; omega)) _ | with_reducible refine Ext.next ?_ (by with_reducible assumption)))).ext (Over.ext _)) hs4 HG4.out)))))
      refine wpQuiet_nil ?_
      rintro wq ⟨⟨_, hwq⟩, rfl⟩
      replace c3 := keep hwq c3
      replace c4 := keep hwq c4
      have HM := hid (HF.out hg)
      go_wp2_with fail
      refine (implPolMul _ _ _ _ ms3 ms4 _ (HC.out.rn.ext (by repeat (first | with_reducible assumption | with_reducible exact Ext.refl _ | with_reducible apply Ext.drewN | with_reducible apply Ext.drew | with_reducible apply Ext.alloc | with_reducible refine Ext.set ?_ (by first | (simp; done) | (simp; omega)) _ | with_reducible refine Ext.next ?_ (by with_reducible assumption)))) (HD.out.rn.ext (by repeat (first | with_reducible assumption | with_reducible exact Ext.refl _ | with_reducible apply Ext.drewN | with_reducible apply Ext.drew | with_reducible apply Ext.alloc | with_reducible refine Ext.set ?_ (by first | (simp; done) | (simp; omega)) _ | with_reducible refine Ext.next ?_ (by with_reducible assumption)))) hs3 hs4).mono ?_
      rintro e w9 ⟨A9, k9, ms9, rfl, hd9, ho9, hw9⟩
      rw [HM.out]
      clear hd9 ho9
      go_wp2
      go_ret
      exact ⟨rfl, (by repeat (first | with_reducible assumption | with_reducible exact Ext.refl _ | with_reducible apply Ext.drewN | with_reducible apply Ext.drew | with_reducible apply Ext.alloc | with_reducible refine Ext.set ?_ (by first | (simp; done) | (simp; omega)) _ | with_reducible refine Ext.next ?_ (by with_reducible assumption)))⟩

set_option maxRecDepth 100000 in
theorem lifted (os : Os) (started : os.Started) (H : Type) (enc : TypeId × Value → H) :
    ReturnsInHanded {} Try.checked os 21 .any (Rows.fnPolFitSpec.pre6 enc Try.prog Try.f21 Rows.fnPolFitRow.domain false) (Rows.fnPolFitSpec.post enc Try.prog Try.f21 false true false false) := by
  refine returnsInHanded_of_change (C := Try.checked) ownKnob_ started (by kernel_rfl) Try.func21
    (ChangeSpec.witness6 (enc := enc) (C := Try.checked) false ⟨#[], #[.slice none 0 0, .slice none 0 0], []⟩ 8 (by kernel_rfl) (by kernel_rfl) (by kernel_rfl) (by kernel_rfl)) ?_
  intro W base args ds gs before hval0 hW hcnd _
  have hval : ∀ (j : Nat) t v, Try.f21.params[j]? = some t → args[j]? = some v → Value.okWide Try.prog W .any base t v := hval0
  have hW' := hW
  obtain ⟨p, q, hA0, hV, rfl, hfz, hnd⟩ := hW
  have hA : DataW.TrodAll enc Try.prog W 0 (fun _ => true) true Try.f21.params.toList args.toList ds p := hA0
  rw [Try.params21] at hA hval
  obtain ⟨v0, vs0, d0, ds0, p0, q0, hargs, rfl, rfl, g0, r0⟩ := trodAll_cons hA
  obtain ⟨v1, vs1, d1, ds1, p1, q1, rfl, rfl, rfl, g1, r1⟩ := trodAll_cons r0
  obtain ⟨rfl, rfl, rfl⟩ := trodAll_nil r1
  obtain rfl : args = #[v0, v1] := by cases args; simp_all
  obtain ⟨rfl, rfl⟩ := trodVars_none hV
  have lt0 : ∀ x ∈ p0, x.block < W.heap.size := by obtain ⟨m, hm⟩ := g0; exact DataW.trod_lt m _ _ _ hm
  obtain ⟨A0, k0, bs0, e0, h0, s0⟩ := read_bytes (hval 0 22 v0 rfl rfl) g0
  subst e0
  have lt1 : ∀ x ∈ p1, x.block < W.heap.size := by obtain ⟨m, hm⟩ := g1; exact DataW.trod_lt m _ _ _ hm
  obtain ⟨A1, k1, bs1, e1, h1, s1⟩ := read_bytes (hval 1 22 v1 rfl rfl) g1
  subst e1
  clear hA0 hval0
  refine (walk A0 k0 bs0 A1 k1 bs1 W h0 s0 h1 s1).mono fun e W' ⟨he, bel⟩ => ?_
  subst he
  exact ⟨_, rfl, _, _, _, [], _, [], hW', trodAll_mk1 (shut_bool Try.underlying4 _), (trodAll_cons_mk (Below.trod laidOut_ (by kernel_rfl) (of_decide_eq_true (by kernel_rfl)) g0 bel.out lt0) (trodAll_cons_mk (Below.trod laidOut_ (by kernel_rfl) (of_decide_eq_true (by kernel_rfl)) g1 bel.out lt1) trodAll_mk0)), rfl, bel.out.frame _, fun h => by cases h⟩
theorem cf0 : (fun (P : Program) (f : FuncId) (fn : Func) (s : ChangeSpec) (c : OpenClaim) => (c.wf (OpenSpec.ofChange s) : Bool)) Try.prog 21 Try.f21 Rows.fnPolFitSpec Rows.fnPolFitRow = true := by kernel_rfl
theorem cf3 : (fun (P : Program) (f : FuncId) (fn : Func) (s : ChangeSpec) (c : OpenClaim) => (fn.params.all (P.readableRec ·) : Bool)) Try.prog 21 Try.f21 Rows.fnPolFitSpec Rows.fnPolFitRow = true := by kernel_rfl
theorem cf4 : (fun (P : Program) (f : FuncId) (fn : Func) (s : ChangeSpec) (c : OpenClaim) => (namedTie P c.named s.vars : Bool)) Try.prog 21 Try.f21 Rows.fnPolFitSpec Rows.fnPolFitRow = true := by kernel_rfl
theorem cf5 : (fun (P : Program) (f : FuncId) (fn : Func) (s : ChangeSpec) (c : OpenClaim) => ((c.stops == []) : Bool)) Try.prog 21 Try.f21 Rows.fnPolFitSpec Rows.fnPolFitRow = true := by kernel_rfl
theorem cf7 : (fun (P : Program) (f : FuncId) (fn : Func) (s : ChangeSpec) (c : OpenClaim) => ((c.knobs == []) : Bool)) Try.prog 21 Try.f21 Rows.fnPolFitSpec Rows.fnPolFitRow = true := by kernel_rfl
theorem cf9 : (fun (P : Program) (f : FuncId) (fn : Func) (s : ChangeSpec) (c : OpenClaim) => ((c.inPlace == P.inPlace f) : Bool)) Try.prog 21 Try.f21 Rows.fnPolFitSpec Rows.fnPolFitRow = true := by kernel_rfl
theorem cf10 : (fun (P : Program) (f : FuncId) (fn : Func) (s : ChangeSpec) (c : OpenClaim) => ((c.unfollowed == P.unfollowed f) : Bool)) Try.prog 21 Try.f21 Rows.fnPolFitSpec Rows.fnPolFitRow = true := by kernel_rfl
theorem cf11 : (fun (P : Program) (f : FuncId) (fn : Func) (s : ChangeSpec) (c : OpenClaim) => ((c.recurses == P.recurses f) : Bool)) Try.prog 21 Try.f21 Rows.fnPolFitSpec Rows.fnPolFitRow = true := by kernel_rfl
theorem cf12 : (fun (P : Program) (f : FuncId) (fn : Func) (s : ChangeSpec) (c : OpenClaim) => ((c.named == P.varsNamed f) : Bool)) Try.prog 21 Try.f21 Rows.fnPolFitSpec Rows.fnPolFitRow = true := by kernel_rfl
theorem cf13 : (fun (P : Program) (f : FuncId) (fn : Func) (s : ChangeSpec) (c : OpenClaim) => ((c.maps == (fn.params.toList ++ s.plain.varTypes P).any (P.mapsRec ·)) : Bool)) Try.prog 21 Try.f21 Rows.fnPolFitSpec Rows.fnPolFitRow = true := by kernel_rfl
theorem cf14 : (fun (P : Program) (f : FuncId) (fn : Func) (s : ChangeSpec) (c : OpenClaim) => ((c.ifaces == (fn.params.toList ++ s.plain.varTypes P).any (P.ifacesRec ·)) : Bool)) Try.prog 21 Try.f21 Rows.fnPolFitSpec Rows.fnPolFitRow = true := by kernel_rfl
theorem cf15 : (fun (P : Program) (f : FuncId) (fn : Func) (s : ChangeSpec) (c : OpenClaim) => ((c.mapsOut == P.mapsAmong fn.resultTypes.toList) : Bool)) Try.prog 21 Try.f21 Rows.fnPolFitSpec Rows.fnPolFitRow = true := by kernel_rfl
theorem cf16 : (fun (P : Program) (f : FuncId) (fn : Func) (s : ChangeSpec) (c : OpenClaim) => ((c.loops == (fn.params.toList ++ s.plain.varTypes P).any (P.loopsFrom ·)) : Bool)) Try.prog 21 Try.f21 Rows.fnPolFitSpec Rows.fnPolFitRow = true := by kernel_rfl
theorem cf17 : (fun (P : Program) (f : FuncId) (fn : Func) (s : ChangeSpec) (c : OpenClaim) => ((c.wideKeys == (fn.params.toList ++ s.plain.varTypes P ++ fn.resultTypes.toList).any (P.wideKeysFrom ·)) : Bool)) Try.prog 21 Try.f21 Rows.fnPolFitSpec Rows.fnPolFitRow = true := by kernel_rfl
theorem cf18 : (fun (P : Program) (f : FuncId) (fn : Func) (s : ChangeSpec) (c : OpenClaim) => (s.vars.all (P.varReadable ·) : Bool)) Try.prog 21 Try.f21 Rows.fnPolFitSpec Rows.fnPolFitRow = true := by kernel_rfl
theorem cf19 : (fun (P : Program) (f : FuncId) (fn : Func) (s : ChangeSpec) (c : OpenClaim) => (fn.resultTypes.all (fun t => P.readableRec t && decide (t < P.types.size)) : Bool)) Try.prog 21 Try.f21 Rows.fnPolFitSpec Rows.fnPolFitRow = true := by kernel_rfl
theorem cf20 : (fun (P : Program) (f : FuncId) (fn : Func) (s : ChangeSpec) (c : OpenClaim) => ((c.ifacesOut == fn.resultTypes.toList.any (P.ifacesRec ·)) : Bool)) Try.prog 21 Try.f21 Rows.fnPolFitSpec Rows.fnPolFitRow = true := by kernel_rfl
theorem cf21 : (fun (P : Program) (f : FuncId) (fn : Func) (s : ChangeSpec) (c : OpenClaim) => ((c.loopsOut == fn.resultTypes.toList.any (P.loopsFrom ·)) : Bool)) Try.prog 21 Try.f21 Rows.fnPolFitSpec Rows.fnPolFitRow = true := by kernel_rfl
theorem cf23 : (fun (P : Program) (f : FuncId) (fn : Func) (s : ChangeSpec) (c : OpenClaim) => (c.shortTexts.isNone : Bool)) Try.prog 21 Try.f21 Rows.fnPolFitSpec Rows.fnPolFitRow = true := by kernel_rfl
theorem cf28 : (fun (P : Program) (f : FuncId) (fn : Func) (s : ChangeSpec) (c : OpenClaim) => ((c.kinds == (if c.domain.isEmpty then [] else fn.params.toList.map fun t => match P.underlying t with | some (.int k) => some k | _ => none)) : Bool)) Try.prog 21 Try.f21 Rows.fnPolFitSpec Rows.fnPolFitRow = true := by kernel_rfl
theorem cf29 : (fun (P : Program) (f : FuncId) (fn : Func) (s : ChangeSpec) (c : OpenClaim) => ((c.pinned == c.pinnedBy) : Bool)) Try.prog 21 Try.f21 Rows.fnPolFitSpec Rows.fnPolFitRow = true := by kernel_rfl
theorem cf30 : (fun (P : Program) (f : FuncId) (fn : Func) (s : ChangeSpec) (c : OpenClaim) => ((c.veiled == (fn.params.toList ++ s.plain.varTypes P ++ fn.resultTypes.toList).any (P.veiledRec ·)) : Bool)) Try.prog 21 Try.f21 Rows.fnPolFitSpec Rows.fnPolFitRow = true := by kernel_rfl
theorem cf31 : (fun (P : Program) (f : FuncId) (fn : Func) (s : ChangeSpec) (c : OpenClaim) => (c.veiledFits P fn.params.toList (fn.params.toList ++ s.plain.varTypes P ++ fn.resultTypes.toList) : Bool)) Try.prog 21 Try.f21 Rows.fnPolFitSpec Rows.fnPolFitRow = true := by kernel_rfl

set_option maxRecDepth 100000 in
theorem closed : joinedFacts Try.prog 21 Try.f21 Rows.fnPolFitSpec Rows.fnPolFitRow = true := by
  unfold joinedFacts
  exact (band (band (band (band (band (band (band (band (band (band (band (band (band (band (band (band (band (band (band (band (band (band (band (band (band (band (band (band (band (band (band cf0 pf1) pf2) cf3) cf4) cf5) pf6) cf7) pf8) cf9) cf10) cf11) cf12) cf13) cf14) cf15) cf16) cf17) cf18) cf19) cf20) cf21) pf22) cf23) pf24) pf25) pf26) pf27) cf28) cf29) cf30) cf31)
theorem inst : Try.f21.isInstance Try.prog Rows.fnPolFitRow.origin Rows.fnPolFitRow.targs := of_decide_eq_true (by kernel_rfl)
theorem wrap_ : Try.f21.isWrapper Try.prog Rows.fnPolFitRow.wrapper Rows.fnPolFitRow.mainSum := by
  unfold Func.isWrapper
  rw [if_neg (by decide +kernel)]
  exact ⟨rfl, rfl⟩

theorem over : Rows.fnPolFitRow.holds Try.pinned (OpenSpec.ofChange Rows.fnPolFitSpec) :=
  OpenClaim.holds_of_wide 21 Try.f21 rfl rfl rfl rfl rfl rfl rfl ⟨rfl, rfl, rfl, rfl, rfl⟩ rfl rfl rfl rfl rfl (by as_aux_lemma => kernel_rfl) Try.func21 closed inst wrap_
    (fun os started H enc _ => lifted os started H enc)

theorem proved : Rows.FnPolFitSaid := over
#print axioms proved
end Go.Proofs.Ytmlegiifceangaa.fnPolFit
