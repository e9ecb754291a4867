/- The law FnPolAdd: PolAdd is what the reference says, true only of two sums that are ok, the same either way round, undone by 65535 times what was added, and what comes of it is worth what its two sums are worth together. Conditions: none. -/
import Derived.Test.YtcgelcaepkakaaaRows
import Derived.WalkKit
import Derived.ProofKit
import Derived.OpenShut
import Derived.ShutString
import Derived.ChangeOld
import Derived.Below
import Derived.Carry
import Derived.Test.YtcgelcaepkakaaaF
import Derived.Test.YtcgelcaepkakaaaK
import Derived.Test.YtcgelcaepkakaaaPX
import Derived.Deep.RegionHeld3
import Derived.Deep.DeepCutAuto
namespace Go.Proofs.Ytcgelcaepkakaaa.fnPolAdd
open Go.ChangeShapes Go.WideShapes Go.ChangeAt Go.RowKit
set_option linter.unusedVariables false
set_option linter.unusedSimpArgs false

set_option maxRecDepth 100000 in
set_option maxHeartbeats 2000000 in
theorem walk (A0 : Option Addr) (k0 : Nat) (bs0 : List Int) (A1 : Option Addr) (k1 : Nat) (bs1 : List Int) (w : World) (h0 : AB w A0 bs0) (s0 : bs0.length ≤ 9223372036854775807 ∧ bs0.length ≤ k0) (h1 : AB w A1 bs1) (s1 : bs1.length ≤ 9223372036854775807 ∧ bs1.length ≤ k1) :
    Calls Try.prog 5 #[.slice A0 bs0.length k0, .slice A1 bs1.length k1] w fun e w' => e = .returned (.bool true) ∧ Ext w w' := by
  by_cases hz : (1048576 : Int) < bs0.length
  · go_enter Try.func5, Try.ntmps5
    go_wp2
    go_ret
    exact ⟨rfl, (by repeat (first | with_reducible assumption | with_reducible exact Ext.refl _ | with_reducible apply Ext.drewN | with_reducible apply Ext.drew | with_reducible apply Ext.alloc | with_reducible refine Ext.set ?_ (by first | (simp; done) | (simp; omega)) _ | with_reducible refine Ext.next ?_ (by with_reducible assumption)))⟩
  by_cases hy : (1048576 : Int) < bs1.length
  · go_enter Try.func5, Try.ntmps5
    go_wp2
    go_ret
    exact ⟨rfl, (by repeat (first | with_reducible assumption | with_reducible exact Ext.refl _ | with_reducible apply Ext.drewN | with_reducible apply Ext.drew | with_reducible apply Ext.alloc | with_reducible refine Ext.set ?_ (by first | (simp; done) | (simp; omega)) _ | with_reducible refine Ext.next ?_ (by with_reducible assumption)))⟩
  go_enter Try.func5, Try.ntmps5
  go_wp2_with fail
  refine (drawAdd _ _ _ _ h0 s0.1 s0.2).mono ?_
  rintro e w1 ⟨A1, k1, ms1, A2, k2, ms2, rfl, G1, G2, hw1⟩
  have hs1 := G1.szM
  have hs2 := G2.szM
  have HA := hid G1
  have HB := hid G2
  clear G1 G2
  go_wp2_with fail
  refine (drawEval _ _ _ _ (h1.ext (by repeat (first | with_reducible assumption | with_reducible exact Ext.refl _ | with_reducible apply Ext.drewN | with_reducible apply Ext.drew | with_reducible apply Ext.alloc | with_reducible refine Ext.set ?_ (by first | (simp; done) | (simp; omega)) _ | with_reducible refine Ext.next ?_ (by with_reducible assumption)))) s1.1 s1.2).mono ?_
  rintro e w2 ⟨A3, k3, ms3, A4, k4, xs, rfl, G3, O4, hl4, hw2⟩
  have c1 : w2.cell? ⟨w1.heap.size, 0, none⟩ = some (.slice A1 ms1.length k1) := keep hw2 (by go_simp)
  have z1 := World.block_lt_of_cell? _ _ c1
  simp only at z1
  have c2 : w2.cell? ⟨w1.heap.size + 1, 0, none⟩ = some (.slice A2 ms2.length k2) := keep hw2 (by go_simp)
  have z2 := World.block_lt_of_cell? _ _ c2
  simp only at z2
  have HX := hid O4
  clear G3 O4
  obtain ⟨dd, bb, hdb⟩ : ∃ d b, polAdd (ms1.map Mn.dat) (ms2.map Mn.dat) = (d, b) := ⟨_, _, rfl⟩
  have HD := hid hdb
  have HC := hid ((polAdd_comm (ms2.map Mn.dat) (ms1.map Mn.dat)).trans hdb)
  have HDK : Hid (polOk dd = true) := hid (by have := polOk_polAdd (ms1.map Mn.dat) (ms2.map Mn.dat); rw [hdb] at this; exact this)
  have HNO : Hid ((polOk (ms1.map Mn.dat) && polOk (ms2.map Mn.dat)) = false → bb = false) := hid fun h => by rw [polAdd_no h] at hdb; injection hdb with _ h; exact h.symm
  have HEV : Hid (∀ vs, bb = true → wordsB vs = true → wrdDo 1 (polEval (ms1.map Mn.dat) vs) (polEval (ms2.map Mn.dat) vs) = polEval dd vs) := hid fun vs hb hv => by
    have := add_eval (a := ms1.map Mn.dat) (b := ms2.map Mn.dat) (vs := vs) (by rw [hdb]; exact hb) hv
    rw [hdb] at this
    exact this.symm
  clear hdb
  have hbq : (bb != bb) = false := by simp
  go_wp2_with fail
  refine (implPolAdd_v _ _ _ _ ms1 ms2 _ (HA.out.rn.ext (by repeat (first | with_reducible assumption | with_reducible exact Ext.refl _ | with_reducible apply Ext.drewN | with_reducible apply Ext.drew | with_reducible apply Ext.alloc | with_reducible refine Ext.set ?_ (by first | (simp; done) | (simp; omega)) _ | with_reducible refine Ext.next ?_ (by with_reducible assumption)))) (HB.out.rn.ext (by repeat (first | with_reducible assumption | with_reducible exact Ext.refl _ | with_reducible apply Ext.drewN | with_reducible apply Ext.drew | with_reducible apply Ext.alloc | with_reducible refine Ext.set ?_ (by first | (simp; done) | (simp; omega)) _ | with_reducible refine Ext.next ?_ (by with_reducible assumption)))) hs1 hs2 HD.out).mono ?_
  rintro e w3 ⟨A5, k5, ms5, rfl, hd5, hs5, ho5, hw3⟩
  replace c1 := keep (Ext.next (by repeat (first | with_reducible assumption | with_reducible exact Ext.refl _ | with_reducible apply Ext.drewN | with_reducible apply Ext.drew | with_reducible apply Ext.alloc | with_reducible refine Ext.set ?_ (by first | (simp; done) | (simp; omega)) _ | with_reducible refine Ext.next ?_ (by with_reducible assumption))) hw3) c1
  replace z1 := World.block_lt_of_cell? _ _ c1
  simp only at z1
  replace c2 := keep (Ext.next (by repeat (first | with_reducible assumption | with_reducible exact Ext.refl _ | with_reducible apply Ext.drewN | with_reducible apply Ext.drew | with_reducible apply Ext.alloc | with_reducible refine Ext.set ?_ (by first | (simp; done) | (simp; omega)) _ | with_reducible refine Ext.next ?_ (by with_reducible assumption))) hw3) c2
  replace z2 := World.block_lt_of_cell? _ _ c2
  simp only at z2
  have HD5 := hid hd5
  have HP := hid ho5
  clear hd5 ho5
  go_wp2_with fail
  refine (specPolAdd_v _ _ _ _ ms1 ms2 _ (HA.out.rn.ext (by repeat (first | with_reducible assumption | with_reducible exact Ext.refl _ | with_reducible apply Ext.drewN | with_reducible apply Ext.drew | with_reducible apply Ext.alloc | with_reducible refine Ext.set ?_ (by first | (simp; done) | (simp; omega)) _ | with_reducible refine Ext.next ?_ (by with_reducible assumption)))) (HB.out.rn.ext (by repeat (first | with_reducible assumption | with_reducible exact Ext.refl _ | with_reducible apply Ext.drewN | with_reducible apply Ext.drew | with_reducible apply Ext.alloc | with_reducible refine Ext.set ?_ (by first | (simp; done) | (simp; omega)) _ | with_reducible refine Ext.next ?_ (by with_reducible assumption)))) hs1 hs2 HD.out).mono ?_
  rintro e w4 ⟨A6, k6, ms6, rfl, hd6, hs6, ho6, hw4⟩
  replace c1 := keep (Ext.next (by repeat (first | with_reducible assumption | with_reducible exact Ext.refl _ | with_reducible apply Ext.drewN | with_reducible apply Ext.drew | with_reducible apply Ext.alloc | with_reducible refine Ext.set ?_ (by first | (simp; done) | (simp; omega)) _ | with_reducible refine Ext.next ?_ (by with_reducible assumption))) hw4) c1
  replace z1 := World.block_lt_of_cell? _ _ c1
  simp only at z1
  replace c2 := keep (Ext.next (by repeat (first | with_reducible assumption | with_reducible exact Ext.refl _ | with_reducible apply Ext.drewN | with_reducible apply Ext.drew | with_reducible apply Ext.alloc | with_reducible refine Ext.set ?_ (by first | (simp; done) | (simp; omega)) _ | with_reducible refine Ext.next ?_ (by with_reducible assumption))) hw4) c2
  replace z2 := World.block_lt_of_cell? _ _ c2
  simp only at z2
  have c5 : w4.cell? ⟨w3.heap.size, 0, none⟩ = some (.slice A5 ms5.length k5) := keep hw4 (by go_simp)
  have z5 := World.block_lt_of_cell? _ _ c5
  simp only at z5
  have HD6 := hid hd6
  have HW := hid ho6
  clear hd6 ho6
  go_wp2_with fail
  refine (laPoly_v _ _ _ _ ms5 ms6 _ (HP.out.rm.ext (by repeat (first | with_reducible assumption | with_reducible exact Ext.refl _ | with_reducible apply Ext.drewN | with_reducible apply Ext.drew | with_reducible apply Ext.alloc | with_reducible refine Ext.set ?_ (by first | (simp; done) | (simp; omega)) _ | with_reducible refine Ext.next ?_ (by with_reducible assumption)))) (HW.out.rm.ext (by repeat (first | with_reducible assumption | with_reducible exact Ext.refl _ | with_reducible apply Ext.drewN | with_reducible apply Ext.drew | with_reducible apply Ext.alloc | with_reducible refine Ext.set ?_ (by first | (simp; done) | (simp; omega)) _ | with_reducible refine Ext.next ?_ (by with_reducible assumption)))) hs5 hs6 (HD5.out.trans HD6.out.symm)).mono ?_
  rintro e w5 ⟨rfl, hw5⟩
  replace c1 := keep (Ext.next (by repeat (first | with_reducible assumption | with_reducible exact Ext.refl _ | with_reducible apply Ext.drewN | with_reducible apply Ext.drew | with_reducible apply Ext.alloc | with_reducible refine Ext.set ?_ (by first | (simp; done) | (simp; omega)) _ | with_reducible refine Ext.next ?_ (by with_reducible assumption))) hw5) c1
  replace z1 := World.block_lt_of_cell? _ _ c1
  simp only at z1
  replace c2 := keep (Ext.next (by repeat (first | with_reducible assumption | with_reducible exact Ext.refl _ | with_reducible apply Ext.drewN | with_reducible apply Ext.drew | with_reducible apply Ext.alloc | with_reducible refine Ext.set ?_ (by first | (simp; done) | (simp; omega)) _ | with_reducible refine Ext.next ?_ (by with_reducible assumption))) hw5) c2
  replace z2 := World.block_lt_of_cell? _ _ c2
  simp only at z2
  replace c5 := keep (Ext.next (by repeat (first | with_reducible assumption | with_reducible exact Ext.refl _ | with_reducible apply Ext.drewN | with_reducible apply Ext.drew | with_reducible apply Ext.alloc | with_reducible refine Ext.set ?_ (by first | (simp; done) | (simp; omega)) _ | with_reducible refine Ext.next ?_ (by with_reducible assumption))) hw5) c5
  replace z5 := World.block_lt_of_cell? _ _ c5
  simp only at z5
  cases ka : polOk (ms1.map Mn.dat)
  · obtain rfl := HNO.out (by rw [ka]; rfl)
    have HKA := hid ka
    clear ka
    go_wp2_with fail
    refine (specPolOk_v _ _ ms1 _ (HA.out.rm.ext (by repeat (first | with_reducible assumption | with_reducible exact Ext.refl _ | with_reducible apply Ext.drewN | with_reducible apply Ext.drew | with_reducible apply Ext.alloc | with_reducible refine Ext.set ?_ (by first | (simp; done) | (simp; omega)) _ | with_reducible refine Ext.next ?_ (by with_reducible assumption)))) hs1 HKA.out).mono ?_
    rintro e w6 ⟨rfl, hw6⟩
    go_wp2_with (go_at_call 17; refine (laOk_ _).mono ?_; rintro e w' ⟨rfl, rfl⟩)
    go_ret
    exact ⟨rfl, (by repeat (first | with_reducible assumption | with_reducible exact Ext.refl _ | with_reducible apply Ext.drewN | with_reducible apply Ext.drew | with_reducible apply Ext.alloc | with_reducible refine Ext.set ?_ (by first | (simp; done) | (simp; omega)) _ | with_reducible refine Ext.next ?_ (by with_reducible assumption)))⟩
  cases kb : polOk (ms2.map Mn.dat)
  · obtain rfl := HNO.out (by rw [ka, kb]; rfl)
    have HKA := hid ka
    have HKB := hid kb
    clear ka kb
    go_wp2_with fail
    refine (specPolOk_v _ _ ms1 _ (HA.out.rm.ext (by repeat (first | with_reducible assumption | with_reducible exact Ext.refl _ | with_reducible apply Ext.drewN | with_reducible apply Ext.drew | with_reducible apply Ext.alloc | with_reducible refine Ext.set ?_ (by first | (simp; done) | (simp; omega)) _ | with_reducible refine Ext.next ?_ (by with_reducible assumption)))) hs1 HKA.out).mono ?_
    rintro e w6 ⟨rfl, hw6⟩
    replace c1 := keep (Ext.next (by repeat (first | with_reducible assumption | with_reducible exact Ext.refl _ | with_reducible apply Ext.drewN | with_reducible apply Ext.drew | with_reducible apply Ext.alloc | with_reducible refine Ext.set ?_ (by first | (simp; done) | (simp; omega)) _ | with_reducible refine Ext.next ?_ (by with_reducible assumption))) hw6) c1
    replace z1 := World.block_lt_of_cell? _ _ c1
    simp only at z1
    replace c2 := keep (Ext.next (by repeat (first | with_reducible assumption | with_reducible exact Ext.refl _ | with_reducible apply Ext.drewN | with_reducible apply Ext.drew | with_reducible apply Ext.alloc | with_reducible refine Ext.set ?_ (by first | (simp; done) | (simp; omega)) _ | with_reducible refine Ext.next ?_ (by with_reducible assumption))) hw6) c2
    replace z2 := World.block_lt_of_cell? _ _ c2
    simp only at z2
    replace c5 := keep (Ext.next (by repeat (first | with_reducible assumption | with_reducible exact Ext.refl _ | with_reducible apply Ext.drewN | with_reducible apply Ext.drew | with_reducible apply Ext.alloc | with_reducible refine Ext.set ?_ (by first | (simp; done) | (simp; omega)) _ | with_reducible refine Ext.next ?_ (by with_reducible assumption))) hw6) c5
    replace z5 := World.block_lt_of_cell? _ _ c5
    simp only at z5
    go_wp2_with fail
    refine (specPolOk_v _ _ ms2 _ (HB.out.rm.ext (by repeat (first | with_reducible assumption | with_reducible exact Ext.refl _ | with_reducible apply Ext.drewN | with_reducible apply Ext.drew | with_reducible apply Ext.alloc | with_reducible refine Ext.set ?_ (by first | (simp; done) | (simp; omega)) _ | with_reducible refine Ext.next ?_ (by with_reducible assumption)))) hs2 HKB.out).mono ?_
    rintro e w7 ⟨rfl, hw7⟩
    go_wp2_with (go_at_call 17; refine (laOk_ _).mono ?_; rintro e w' ⟨rfl, rfl⟩)
    go_ret
    exact ⟨rfl, (by repeat (first | with_reducible assumption | with_reducible exact Ext.refl _ | with_reducible apply Ext.drewN | with_reducible apply Ext.drew | with_reducible apply Ext.alloc | with_reducible refine Ext.set ?_ (by first | (simp; done) | (simp; omega)) _ | with_reducible refine Ext.next ?_ (by with_reducible assumption)))⟩
  have HUN := hid (add_undo ka)
  have HKA := hid ka
  have HKB := hid kb
  clear ka kb
  go_wp2_with fail
  refine (specPolOk_v _ _ ms1 _ (HA.out.rm.ext (by repeat (first | with_reducible assumption | with_reducible exact Ext.refl _ | with_reducible apply Ext.drewN | with_reducible apply Ext.drew | with_reducible apply Ext.alloc | with_reducible refine Ext.set ?_ (by first | (simp; done) | (simp; omega)) _ | with_reducible refine Ext.next ?_ (by with_reducible assumption)))) hs1 HKA.out).mono ?_
  rintro e w6 ⟨rfl, hw6⟩
  replace c1 := keep (Ext.next (by repeat (first | with_reducible assumption | with_reducible exact Ext.refl _ | with_reducible apply Ext.drewN | with_reducible apply Ext.drew | with_reducible apply Ext.alloc | with_reducible refine Ext.set ?_ (by first | (simp; done) | (simp; omega)) _ | with_reducible refine Ext.next ?_ (by with_reducible assumption))) hw6) c1
  replace z1 := World.block_lt_of_cell? _ _ c1
  simp only at z1
  replace c2 := keep (Ext.next (by repeat (first | with_reducible assumption | with_reducible exact Ext.refl _ | with_reducible apply Ext.drewN | with_reducible apply Ext.drew | with_reducible apply Ext.alloc | with_reducible refine Ext.set ?_ (by first | (simp; done) | (simp; omega)) _ | with_reducible refine Ext.next ?_ (by with_reducible assumption))) hw6) c2
  replace z2 := World.block_lt_of_cell? _ _ c2
  simp only at z2
  replace c5 := keep (Ext.next (by repeat (first | with_reducible assumption | with_reducible exact Ext.refl _ | with_reducible apply Ext.drewN | with_reducible apply Ext.drew | with_reducible apply Ext.alloc | with_reducible refine Ext.set ?_ (by first | (simp; done) | (simp; omega)) _ | with_reducible refine Ext.next ?_ (by with_reducible assumption))) hw6) c5
  replace z5 := World.block_lt_of_cell? _ _ c5
  simp only at z5
  go_wp2_with fail
  refine (specPolOk_v _ _ ms2 _ (HB.out.rm.ext (by repeat (first | with_reducible assumption | with_reducible exact Ext.refl _ | with_reducible apply Ext.drewN | with_reducible apply Ext.drew | with_reducible apply Ext.alloc | with_reducible refine Ext.set ?_ (by first | (simp; done) | (simp; omega)) _ | with_reducible refine Ext.next ?_ (by with_reducible assumption)))) hs2 HKB.out).mono ?_
  rintro e w7 ⟨rfl, hw7⟩
  replace c1 := keep (Ext.next (by repeat (first | with_reducible assumption | with_reducible exact Ext.refl _ | with_reducible apply Ext.drewN | with_reducible apply Ext.drew | with_reducible apply Ext.alloc | with_reducible refine Ext.set ?_ (by first | (simp; done) | (simp; omega)) _ | with_reducible refine Ext.next ?_ (by with_reducible assumption))) hw7) c1
  replace z1 := World.block_lt_of_cell? _ _ c1
  simp only at z1
  replace c2 := keep (Ext.next (by repeat (first | with_reducible assumption | with_reducible exact Ext.refl _ | with_reducible apply Ext.drewN | with_reducible apply Ext.drew | with_reducible apply Ext.alloc | with_reducible refine Ext.set ?_ (by first | (simp; done) | (simp; omega)) _ | with_reducible refine Ext.next ?_ (by with_reducible assumption))) hw7) c2
  replace z2 := World.block_lt_of_cell? _ _ c2
  simp only at z2
  replace c5 := keep (Ext.next (by repeat (first | with_reducible assumption | with_reducible exact Ext.refl _ | with_reducible apply Ext.drewN | with_reducible apply Ext.drew | with_reducible apply Ext.alloc | with_reducible refine Ext.set ?_ (by first | (simp; done) | (simp; omega)) _ | with_reducible refine Ext.next ?_ (by with_reducible assumption))) hw7) c5
  replace z5 := World.block_lt_of_cell? _ _ c5
  simp only at z5
  go_wp2_with fail
  refine (implPolAdd_v _ _ _ _ ms2 ms1 _ (HB.out.rn.ext (by repeat (first | with_reducible assumption | with_reducible exact Ext.refl _ | with_reducible apply Ext.drewN | with_reducible apply Ext.drew | with_reducible apply Ext.alloc | with_reducible refine Ext.set ?_ (by first | (simp; done) | (simp; omega)) _ | with_reducible refine Ext.next ?_ (by with_reducible assumption)))) (HA.out.rn.ext (by repeat (first | with_reducible assumption | with_reducible exact Ext.refl _ | with_reducible apply Ext.drewN | with_reducible apply Ext.drew | with_reducible apply Ext.alloc | with_reducible refine Ext.set ?_ (by first | (simp; done) | (simp; omega)) _ | with_reducible refine Ext.next ?_ (by with_reducible assumption)))) hs2 hs1 HC.out).mono ?_
  rintro e w8 ⟨A8, k8, ms8, rfl, hd8, hs8, ho8, hw8⟩
  replace c1 := keep (Ext.next (by repeat (first | with_reducible assumption | with_reducible exact Ext.refl _ | with_reducible apply Ext.drewN | with_reducible apply Ext.drew | with_reducible apply Ext.alloc | with_reducible refine Ext.set ?_ (by first | (simp; done) | (simp; omega)) _ | with_reducible refine Ext.next ?_ (by with_reducible assumption))) hw8) c1
  replace z1 := World.block_lt_of_cell? _ _ c1
  simp only at z1
  replace c2 := keep (Ext.next (by repeat (first | with_reducible assumption | with_reducible exact Ext.refl _ | with_reducible apply Ext.drewN | with_reducible apply Ext.drew | with_reducible apply Ext.alloc | with_reducible refine Ext.set ?_ (by first | (simp; done) | (simp; omega)) _ | with_reducible refine Ext.next ?_ (by with_reducible assumption))) hw8) c2
  replace z2 := World.block_lt_of_cell? _ _ c2
  simp only at z2
  replace c5 := keep (Ext.next (by repeat (first | with_reducible assumption | with_reducible exact Ext.refl _ | with_reducible apply Ext.drewN | with_reducible apply Ext.drew | with_reducible apply Ext.alloc | with_reducible refine Ext.set ?_ (by first | (simp; done) | (simp; omega)) _ | with_reducible refine Ext.next ?_ (by with_reducible assumption))) hw8) c5
  replace z5 := World.block_lt_of_cell? _ _ c5
  simp only at z5
  have HD8 := hid hd8
  have HQ := hid ho8
  clear hd8 ho8
  go_wp2_with fail
  refine (laPoly_v _ _ _ _ ms5 ms8 _ (HP.out.rm.ext (by repeat (first | with_reducible assumption | with_reducible exact Ext.refl _ | with_reducible apply Ext.drewN | with_reducible apply Ext.drew | with_reducible apply Ext.alloc | with_reducible refine Ext.set ?_ (by first | (simp; done) | (simp; omega)) _ | with_reducible refine Ext.next ?_ (by with_reducible assumption)))) (HQ.out.rm.ext (by repeat (first | with_reducible assumption | with_reducible exact Ext.refl _ | with_reducible apply Ext.drewN | with_reducible apply Ext.drew | with_reducible apply Ext.alloc | with_reducible refine Ext.set ?_ (by first | (simp; done) | (simp; omega)) _ | with_reducible refine Ext.next ?_ (by with_reducible assumption)))) hs5 hs8 (HD5.out.trans HD8.out.symm)).mono ?_
  rintro e w9 ⟨rfl, hw9⟩
  replace c1 := keep (Ext.next (by repeat (first | with_reducible assumption | with_reducible exact Ext.refl _ | with_reducible apply Ext.drewN | with_reducible apply Ext.drew | with_reducible apply Ext.alloc | with_reducible refine Ext.set ?_ (by first | (simp; done) | (simp; omega)) _ | with_reducible refine Ext.next ?_ (by with_reducible assumption))) hw9) c1
  replace z1 := World.block_lt_of_cell? _ _ c1
  simp only at z1
  replace c2 := keep (Ext.next (by repeat (first | with_reducible assumption | with_reducible exact Ext.refl _ | with_reducible apply Ext.drewN | with_reducible apply Ext.drew | with_reducible apply Ext.alloc | with_reducible refine Ext.set ?_ (by first | (simp; done) | (simp; omega)) _ | with_reducible refine Ext.next ?_ (by with_reducible assumption))) hw9) c2
  replace z2 := World.block_lt_of_cell? _ _ c2
  simp only at z2
  replace c5 := keep (Ext.next (by repeat (first | with_reducible assumption | with_reducible exact Ext.refl _ | with_reducible apply Ext.drewN | with_reducible apply Ext.drew | with_reducible apply Ext.alloc | with_reducible refine Ext.set ?_ (by first | (simp; done) | (simp; omega)) _ | with_reducible refine Ext.next ?_ (by with_reducible assumption))) hw9) c5
  replace z5 := World.block_lt_of_cell? _ _ c5
  simp only at z5
  go_upto_region 14 with fail
  go_cut [15, 16] (fun u t wx => ∃ (p : Nat) (A : Option Addr) (k : Nat), u = .pointer (some ⟨p, 0, none⟩) ∧ t = .bool true ∧ wx.cell? ⟨p, 0, none⟩ = some (.slice A 0 k) ∧ w9.heap.size ≤ p ∧ Ext w9 wx)
  case first =>
    go_wp2
    go_region_held3 (fun w' => w'.cell? ⟨w1.heap.size, 0, none⟩ = some (.slice A1 ms1.length k1)) (first | ((repeat (first | with_reducible assumption | with_reducible refine keep (Ext.alloc (Ext.refl _) _) ?_ | with_reducible refine keep (Ext.drew (Ext.refl _)) ?_ | with_reducible refine keep (Ext.drewN (Ext.refl _) _) ?_ | with_reducible refine keep (by with_reducible assumption) ?_)); done) | (rw [World.cell?_setCell_far _ _ _ _ (by simp; omega)]; ((repeat (first | with_reducible assumption | with_reducible refine keep (Ext.alloc (Ext.refl _) _) ?_ | with_reducible refine keep (Ext.drew (Ext.refl _)) ?_ | with_reducible refine keep (Ext.drewN (Ext.refl _) _) ?_ | with_reducible refine keep (by with_reducible assumption) ?_)); done))) (first
      | (go_at_call 23; (refine (implPolScale_v _ _ ms1 65535 _ (HA.out.rn.ext (by repeat (first | with_reducible assumption | with_reducible exact Ext.refl _ | with_reducible apply Ext.drewN | with_reducible apply Ext.drew | with_reducible apply Ext.alloc | with_reducible refine Ext.set ?_ (by first | (simp; done) | (simp; omega)) _ | with_reducible refine Ext.next ?_ (by with_reducible assumption)))) hs1 rfl).mono ?_); (rintro e w10 ⟨A10, k10, ms10, rfl, hd10, hs10, ho10, hw10⟩); (have HU1 : Hid (polAdd (ms1.map Mn.dat) (ms10.map Mn.dat) = ([], true)) := hid (by rw [hd10]; exact HUN.out)); (have HO10 := hid ho10); clear hd10 ho10; (obtain ⟨hc10, hf10⟩ := bcell_ hw10); (have hz10 := hw10.size); (try simp at hz10); (try (have lt910 : w9.heap.size < w10.heap.size := Nat.lt_of_lt_of_le (Nat.lt_succ_self _) hz10)))
      | (go_at_call 28; (refine (implPolAdd_v _ _ _ _ ms1 ms10 _ (HA.out.rn.ext (by repeat (first | with_reducible assumption | with_reducible exact Ext.refl _ | with_reducible apply Ext.drewN | with_reducible apply Ext.drew | with_reducible apply Ext.alloc | with_reducible refine Ext.set ?_ (by first | (simp; done) | (simp; omega)) _ | with_reducible refine Ext.next ?_ (by with_reducible assumption)))) (HO10.out.ext (by repeat (first | with_reducible assumption | with_reducible exact Ext.refl _ | with_reducible apply Ext.drewN | with_reducible apply Ext.drew | with_reducible apply Ext.alloc | with_reducible refine Ext.set ?_ (by first | (simp; done) | (simp; omega)) _ | with_reducible refine Ext.next ?_ (by with_reducible assumption)))) hs1 hs10 (d := []) (b := true) HU1.out).mono ?_); (rintro e w11 ⟨A11, k11, ms11, rfl, hd11, hs11, ho11, hw11⟩); (obtain rfl : ms11 = [] := List.map_eq_nil_iff.1 hd11); clear hd11 hs11 ho11; (obtain ⟨hc11, hf11⟩ := bcell_ hw11); (have hz11 := hw11.size); (try simp at hz11); (try (have lt1011 : w10.heap.size < w11.heap.size := Nat.lt_of_lt_of_le (Nat.lt_succ_self _) hz11)); (try (have lt911 : w9.heap.size < w11.heap.size := by omega))))
    all_goals
      go_wp2
      go_meet
      refine ⟨_, A11, k11, rfl, rfl, ?_, ?_, ?_⟩
      · go_simp
      · first | (simp; done) | omega | (simp; omega)
      · exact (by repeat (first | with_reducible assumption | with_reducible exact Ext.refl _ | with_reducible apply Ext.drewN | with_reducible apply Ext.drew | with_reducible apply Ext.alloc | with_reducible refine Ext.set ?_ (by first | (simp; done) | (simp; omega)) _ | with_reducible refine Ext.next ?_ (by with_reducible assumption)))
  case rest =>
    obtain ⟨p, A11, k11, rfl, rfl, c11, hpl, hw11⟩ := hcut
    replace c1 := keep (Ext.next (by repeat (first | with_reducible assumption | with_reducible exact Ext.refl _ | with_reducible apply Ext.drewN | with_reducible apply Ext.drew | with_reducible apply Ext.alloc | with_reducible refine Ext.set ?_ (by first | (simp; done) | (simp; omega)) _ | with_reducible refine Ext.next ?_ (by with_reducible assumption))) hw11) c1
    replace z1 := World.block_lt_of_cell? _ _ c1
    simp only at z1
    replace c2 := keep (Ext.next (by repeat (first | with_reducible assumption | with_reducible exact Ext.refl _ | with_reducible apply Ext.drewN | with_reducible apply Ext.drew | with_reducible apply Ext.alloc | with_reducible refine Ext.set ?_ (by first | (simp; done) | (simp; omega)) _ | with_reducible refine Ext.next ?_ (by with_reducible assumption))) hw11) c2
    replace z2 := World.block_lt_of_cell? _ _ c2
    simp only at z2
    replace c5 := keep (Ext.next (by repeat (first | with_reducible assumption | with_reducible exact Ext.refl _ | with_reducible apply Ext.drewN | with_reducible apply Ext.drew | with_reducible apply Ext.alloc | with_reducible refine Ext.set ?_ (by first | (simp; done) | (simp; omega)) _ | with_reducible refine Ext.next ?_ (by with_reducible assumption))) hw11) c5
    replace z5 := World.block_lt_of_cell? _ _ c5
    simp only at z5
    have z11 := World.block_lt_of_cell? _ _ c11
    simp only at z11
    cases bb
    · go_wp2_with (go_at_call 17; refine (laOk_ _).mono ?_; rintro e w' ⟨rfl, rfl⟩)
      go_ret
      exact ⟨rfl, (by repeat (first | with_reducible assumption | with_reducible exact Ext.refl _ | with_reducible apply Ext.drewN | with_reducible apply Ext.drew | with_reducible apply Ext.alloc | with_reducible refine Ext.set ?_ (by first | (simp; done) | (simp; omega)) _ | with_reducible refine Ext.next ?_ (by with_reducible assumption)))⟩
    go_wp2_with fail
    refine (laWords_ _ _ xs _ (HX.out.ri.ext (by repeat (first | with_reducible assumption | with_reducible exact Ext.refl _ | with_reducible apply Ext.drewN | with_reducible apply Ext.drew | with_reducible apply Ext.alloc | with_reducible refine Ext.set ?_ (by first | (simp; done) | (simp; omega)) _ | with_reducible refine Ext.next ?_ (by with_reducible assumption)))) (by omega)).mono ?_
    rintro e w12 ⟨A12, k12, rfl, O12, hw12⟩
    replace c1 := keep (Ext.next (by repeat (first | with_reducible assumption | with_reducible exact Ext.refl _ | with_reducible apply Ext.drewN | with_reducible apply Ext.drew | with_reducible apply Ext.alloc | with_reducible refine Ext.set ?_ (by first | (simp; done) | (simp; omega)) _ | with_reducible refine Ext.next ?_ (by with_reducible assumption))) hw12) c1
    replace z1 := World.block_lt_of_cell? _ _ c1
    simp only at z1
    replace c2 := keep (Ext.next (by repeat (first | with_reducible assumption | with_reducible exact Ext.refl _ | with_reducible apply Ext.drewN | with_reducible apply Ext.drew | with_reducible apply Ext.alloc | with_reducible refine Ext.set ?_ (by first | (simp; done) | (simp; omega)) _ | with_reducible refine Ext.next ?_ (by with_reducible assumption))) hw12) c2
    replace z2 := World.block_lt_of_cell? _ _ c2
    simp only at z2
    replace c5 := keep (Ext.next (by repeat (first | with_reducible assumption | with_reducible exact Ext.refl _ | with_reducible apply Ext.drewN | with_reducible apply Ext.drew | with_reducible apply Ext.alloc | with_reducible refine Ext.set ?_ (by first | (simp; done) | (simp; omega)) _ | with_reducible refine Ext.next ?_ (by with_reducible assumption))) hw12) c5
    replace z5 := World.block_lt_of_cell? _ _ c5
    simp only at z5
    have HY := hid O12
    have HL : Hid ((xs.map wrap).length = xs.length) := hid (by simp)
    have HWB := hid (wordsB_wraps xs)
    clear O12
    generalize hys : xs.map wrap = ys at *
    clear hys
    obtain ⟨ea, hea⟩ : ∃ v, polEval (ms1.map Mn.dat) ys = v := ⟨_, rfl⟩
    obtain ⟨eb, heb⟩ : ∃ v, polEval (ms2.map Mn.dat) ys = v := ⟨_, rfl⟩
    obtain ⟨ep, hep⟩ : ∃ v, polEval (ms5.map Mn.dat) ys = v := ⟨_, rfl⟩
    have HDO : Hid (wrdDo 1 ea eb = ep) := hid (by rw [← hea, ← heb, ← hep, HD5.out]; exact HEV.out ys (by trivial) HWB.out)
    have HKP : Hid (polOk (ms5.map Mn.dat) = true) := hid (by rw [HD5.out]; exact HDK.out)
    have HEA := hid hea
    have HEB := hid heb
    have HEP := hid hep
    have hyl : ys.length ≤ 8 := by have := HL.out; omega
    clear hea heb hep
    go_wp2
    go_region_held3 (fun w' => w'.cell? ⟨w1.heap.size, 0, none⟩ = some (.slice A1 ms1.length k1) ∧ w'.cell? ⟨w1.heap.size + 1, 0, none⟩ = some (.slice A2 ms2.length k2) ∧ w'.cell? ⟨w3.heap.size, 0, none⟩ = some (.slice A5 ms5.length k5)) (refine ⟨?_, ?_, ?_⟩ <;> ((repeat (first | with_reducible assumption | with_reducible refine keep (Ext.alloc (Ext.refl _) _) ?_ | with_reducible refine keep (Ext.drew (Ext.refl _)) ?_ | with_reducible refine keep (Ext.drewN (Ext.refl _) _) ?_ | with_reducible refine keep (by with_reducible assumption) ?_)); done)) (first
      | (go_at_call 19; (refine (implPolOk_v _ _ ms5 _ (HP.out.rm.ext (by repeat (first | with_reducible assumption | with_reducible exact Ext.refl _ | with_reducible apply Ext.drewN | with_reducible apply Ext.drew | with_reducible apply Ext.alloc | with_reducible refine Ext.set ?_ (by first | (simp; done) | (simp; omega)) _ | with_reducible refine Ext.next ?_ (by with_reducible assumption)))) hs5 HKP.out).mono ?_); (rintro e w13 ⟨rfl, hw13⟩))
      | (go_at_call_of 20 (Value.agg #[Value.slice A5 ms5.length k5]); (refine (implPolEval_v _ _ _ _ ys.length ms5 ys _ (HP.out.rm.ext (by repeat (first | with_reducible assumption | with_reducible exact Ext.refl _ | with_reducible apply Ext.drewN | with_reducible apply Ext.drew | with_reducible apply Ext.alloc | with_reducible refine Ext.set ?_ (by first | (simp; done) | (simp; omega)) _ | with_reducible refine Ext.next ?_ (by with_reducible assumption)))) hs5 (HY.out.ri.ext (by repeat (first | with_reducible assumption | with_reducible exact Ext.refl _ | with_reducible apply Ext.drewN | with_reducible apply Ext.drew | with_reducible apply Ext.alloc | with_reducible refine Ext.set ?_ (by first | (simp; done) | (simp; omega)) _ | with_reducible refine Ext.next ?_ (by with_reducible assumption)))) rfl (by omega) HEP.out).mono ?_); (rintro e w14 ⟨rfl, hw14⟩))
      | (go_at_call_of 20 (Value.agg #[Value.slice A1 ms1.length k1]); (refine (implPolEval_v _ _ _ _ ys.length ms1 ys _ (HA.out.rm.ext (by repeat (first | with_reducible assumption | with_reducible exact Ext.refl _ | with_reducible apply Ext.drewN | with_reducible apply Ext.drew | with_reducible apply Ext.alloc | with_reducible refine Ext.set ?_ (by first | (simp; done) | (simp; omega)) _ | with_reducible refine Ext.next ?_ (by with_reducible assumption)))) hs1 (HY.out.ri.ext (by repeat (first | with_reducible assumption | with_reducible exact Ext.refl _ | with_reducible apply Ext.drewN | with_reducible apply Ext.drew | with_reducible apply Ext.alloc | with_reducible refine Ext.set ?_ (by first | (simp; done) | (simp; omega)) _ | with_reducible refine Ext.next ?_ (by with_reducible assumption)))) rfl (by omega) HEA.out).mono ?_); (rintro e w15 ⟨rfl, hw15⟩))
      | (go_at_call_of 20 (Value.agg #[Value.slice A2 ms2.length k2]); (refine (implPolEval_v _ _ _ _ ys.length ms2 ys _ (HB.out.rm.ext (by repeat (first | with_reducible assumption | with_reducible exact Ext.refl _ | with_reducible apply Ext.drewN | with_reducible apply Ext.drew | with_reducible apply Ext.alloc | with_reducible refine Ext.set ?_ (by first | (simp; done) | (simp; omega)) _ | with_reducible refine Ext.next ?_ (by with_reducible assumption)))) hs2 (HY.out.ri.ext (by repeat (first | with_reducible assumption | with_reducible exact Ext.refl _ | with_reducible apply Ext.drewN | with_reducible apply Ext.drew | with_reducible apply Ext.alloc | with_reducible refine Ext.set ?_ (by first | (simp; done) | (simp; omega)) _ | with_reducible refine Ext.next ?_ (by with_reducible assumption)))) rfl (by omega) HEB.out).mono ?_); (rintro e w16 ⟨rfl, hw16⟩))
      | (go_at_call 21; (refine (specWrdDo_v 1 ea eb _ HDO.out).mono ?_); (rintro e w17 ⟨rfl, hw17⟩)))
    all_goals
      go_wp2
      go_ret
      exact ⟨rfl, (by repeat (first | with_reducible assumption | with_reducible exact Ext.refl _ | with_reducible apply Ext.drewN | with_reducible apply Ext.drew | with_reducible apply Ext.alloc | with_reducible refine Ext.set ?_ (by first | (simp; done) | (simp; omega)) _ | with_reducible refine Ext.next ?_ (by with_reducible assumption)))⟩

set_option maxRecDepth 100000 in
theorem lifted (os : Os) (started : os.Started) (H : Type) (enc : TypeId × Value → H) :
    ReturnsInHanded {} Try.checked os 5 .any (Rows.fnPolAddSpec.pre6 enc Try.prog Try.f5 Rows.fnPolAddRow.domain false) (Rows.fnPolAddSpec.post enc Try.prog Try.f5 false true false false) := by
  refine returnsInHanded_of_change (C := Try.checked) ownKnob_ started (by kernel_rfl) Try.func5
    (ChangeSpec.witness6 (enc := enc) (C := Try.checked) false ⟨#[], #[.slice none 0 0, .slice none 0 0], []⟩ 8 (by kernel_rfl) (by kernel_rfl) (by kernel_rfl) (by kernel_rfl)) ?_
  intro W base args ds gs before hval0 hW hcnd _
  have hval : ∀ (j : Nat) t v, Try.f5.params[j]? = some t → args[j]? = some v → Value.okWide Try.prog W .any base t v := hval0
  have hW' := hW
  obtain ⟨p, q, hA0, hV, rfl, hfz, hnd⟩ := hW
  have hA : DataW.TrodAll enc Try.prog W 0 (fun _ => true) true Try.f5.params.toList args.toList ds p := hA0
  rw [Try.params5] at hA hval
  obtain ⟨v0, vs0, d0, ds0, p0, q0, hargs, rfl, rfl, g0, r0⟩ := trodAll_cons hA
  obtain ⟨v1, vs1, d1, ds1, p1, q1, rfl, rfl, rfl, g1, r1⟩ := trodAll_cons r0
  obtain ⟨rfl, rfl, rfl⟩ := trodAll_nil r1
  obtain rfl : args = #[v0, v1] := by cases args; simp_all
  obtain ⟨rfl, rfl⟩ := trodVars_none hV
  have lt0 : ∀ x ∈ p0, x.block < W.heap.size := by obtain ⟨m, hm⟩ := g0; exact DataW.trod_lt m _ _ _ hm
  obtain ⟨A0, k0, bs0, e0, h0, s0⟩ := read_bytes (hval 0 22 v0 rfl rfl) g0
  subst e0
  have lt1 : ∀ x ∈ p1, x.block < W.heap.size := by obtain ⟨m, hm⟩ := g1; exact DataW.trod_lt m _ _ _ hm
  obtain ⟨A1, k1, bs1, e1, h1, s1⟩ := read_bytes (hval 1 22 v1 rfl rfl) g1
  subst e1
  clear hA0 hval0
  refine (walk A0 k0 bs0 A1 k1 bs1 W h0 s0 h1 s1).mono fun e W' ⟨he, bel⟩ => ?_
  subst he
  exact ⟨_, rfl, _, _, _, [], _, [], hW', trodAll_mk1 (shut_bool Try.underlying4 _), (trodAll_cons_mk (Below.trod laidOut_ (by kernel_rfl) (of_decide_eq_true (by kernel_rfl)) g0 bel.out lt0) (trodAll_cons_mk (Below.trod laidOut_ (by kernel_rfl) (of_decide_eq_true (by kernel_rfl)) g1 bel.out lt1) trodAll_mk0)), rfl, bel.out.frame _, fun h => by cases h⟩
theorem cf0 : (fun (P : Program) (f : FuncId) (fn : Func) (s : ChangeSpec) (c : OpenClaim) => (c.wf (OpenSpec.ofChange s) : Bool)) Try.prog 5 Try.f5 Rows.fnPolAddSpec Rows.fnPolAddRow = true := by kernel_rfl
theorem cf3 : (fun (P : Program) (f : FuncId) (fn : Func) (s : ChangeSpec) (c : OpenClaim) => (fn.params.all (P.readableRec ·) : Bool)) Try.prog 5 Try.f5 Rows.fnPolAddSpec Rows.fnPolAddRow = true := by kernel_rfl
theorem cf4 : (fun (P : Program) (f : FuncId) (fn : Func) (s : ChangeSpec) (c : OpenClaim) => (namedTie P c.named s.vars : Bool)) Try.prog 5 Try.f5 Rows.fnPolAddSpec Rows.fnPolAddRow = true := by kernel_rfl
theorem cf5 : (fun (P : Program) (f : FuncId) (fn : Func) (s : ChangeSpec) (c : OpenClaim) => ((c.stops == []) : Bool)) Try.prog 5 Try.f5 Rows.fnPolAddSpec Rows.fnPolAddRow = true := by kernel_rfl
theorem cf7 : (fun (P : Program) (f : FuncId) (fn : Func) (s : ChangeSpec) (c : OpenClaim) => ((c.knobs == []) : Bool)) Try.prog 5 Try.f5 Rows.fnPolAddSpec Rows.fnPolAddRow = true := by kernel_rfl
theorem cf9 : (fun (P : Program) (f : FuncId) (fn : Func) (s : ChangeSpec) (c : OpenClaim) => ((c.inPlace == P.inPlace f) : Bool)) Try.prog 5 Try.f5 Rows.fnPolAddSpec Rows.fnPolAddRow = true := by kernel_rfl
theorem cf10 : (fun (P : Program) (f : FuncId) (fn : Func) (s : ChangeSpec) (c : OpenClaim) => ((c.unfollowed == P.unfollowed f) : Bool)) Try.prog 5 Try.f5 Rows.fnPolAddSpec Rows.fnPolAddRow = true := by kernel_rfl
theorem cf11 : (fun (P : Program) (f : FuncId) (fn : Func) (s : ChangeSpec) (c : OpenClaim) => ((c.recurses == P.recurses f) : Bool)) Try.prog 5 Try.f5 Rows.fnPolAddSpec Rows.fnPolAddRow = true := by kernel_rfl
theorem cf12 : (fun (P : Program) (f : FuncId) (fn : Func) (s : ChangeSpec) (c : OpenClaim) => ((c.named == P.varsNamed f) : Bool)) Try.prog 5 Try.f5 Rows.fnPolAddSpec Rows.fnPolAddRow = true := by kernel_rfl
theorem cf13 : (fun (P : Program) (f : FuncId) (fn : Func) (s : ChangeSpec) (c : OpenClaim) => ((c.maps == (fn.params.toList ++ s.plain.varTypes P).any (P.mapsRec ·)) : Bool)) Try.prog 5 Try.f5 Rows.fnPolAddSpec Rows.fnPolAddRow = true := by kernel_rfl
theorem cf14 : (fun (P : Program) (f : FuncId) (fn : Func) (s : ChangeSpec) (c : OpenClaim) => ((c.ifaces == (fn.params.toList ++ s.plain.varTypes P).any (P.ifacesRec ·)) : Bool)) Try.prog 5 Try.f5 Rows.fnPolAddSpec Rows.fnPolAddRow = true := by kernel_rfl
theorem cf15 : (fun (P : Program) (f : FuncId) (fn : Func) (s : ChangeSpec) (c : OpenClaim) => ((c.mapsOut == P.mapsAmong fn.resultTypes.toList) : Bool)) Try.prog 5 Try.f5 Rows.fnPolAddSpec Rows.fnPolAddRow = true := by kernel_rfl
theorem cf16 : (fun (P : Program) (f : FuncId) (fn : Func) (s : ChangeSpec) (c : OpenClaim) => ((c.loops == (fn.params.toList ++ s.plain.varTypes P).any (P.loopsFrom ·)) : Bool)) Try.prog 5 Try.f5 Rows.fnPolAddSpec Rows.fnPolAddRow = true := by kernel_rfl
theorem cf17 : (fun (P : Program) (f : FuncId) (fn : Func) (s : ChangeSpec) (c : OpenClaim) => ((c.wideKeys == (fn.params.toList ++ s.plain.varTypes P ++ fn.resultTypes.toList).any (P.wideKeysFrom ·)) : Bool)) Try.prog 5 Try.f5 Rows.fnPolAddSpec Rows.fnPolAddRow = true := by kernel_rfl
theorem cf18 : (fun (P : Program) (f : FuncId) (fn : Func) (s : ChangeSpec) (c : OpenClaim) => (s.vars.all (P.varReadable ·) : Bool)) Try.prog 5 Try.f5 Rows.fnPolAddSpec Rows.fnPolAddRow = true := by kernel_rfl
theorem cf19 : (fun (P : Program) (f : FuncId) (fn : Func) (s : ChangeSpec) (c : OpenClaim) => (fn.resultTypes.all (fun t => P.readableRec t && decide (t < P.types.size)) : Bool)) Try.prog 5 Try.f5 Rows.fnPolAddSpec Rows.fnPolAddRow = true := by kernel_rfl
theorem cf20 : (fun (P : Program) (f : FuncId) (fn : Func) (s : ChangeSpec) (c : OpenClaim) => ((c.ifacesOut == fn.resultTypes.toList.any (P.ifacesRec ·)) : Bool)) Try.prog 5 Try.f5 Rows.fnPolAddSpec Rows.fnPolAddRow = true := by kernel_rfl
theorem cf21 : (fun (P : Program) (f : FuncId) (fn : Func) (s : ChangeSpec) (c : OpenClaim) => ((c.loopsOut == fn.resultTypes.toList.any (P.loopsFrom ·)) : Bool)) Try.prog 5 Try.f5 Rows.fnPolAddSpec Rows.fnPolAddRow = true := by kernel_rfl
theorem cf23 : (fun (P : Program) (f : FuncId) (fn : Func) (s : ChangeSpec) (c : OpenClaim) => (c.shortTexts.isNone : Bool)) Try.prog 5 Try.f5 Rows.fnPolAddSpec Rows.fnPolAddRow = true := by kernel_rfl
theorem cf28 : (fun (P : Program) (f : FuncId) (fn : Func) (s : ChangeSpec) (c : OpenClaim) => ((c.kinds == (if c.domain.isEmpty then [] else fn.params.toList.map fun t => match P.underlying t with | some (.int k) => some k | _ => none)) : Bool)) Try.prog 5 Try.f5 Rows.fnPolAddSpec Rows.fnPolAddRow = true := by kernel_rfl
theorem cf29 : (fun (P : Program) (f : FuncId) (fn : Func) (s : ChangeSpec) (c : OpenClaim) => ((c.pinned == c.pinnedBy) : Bool)) Try.prog 5 Try.f5 Rows.fnPolAddSpec Rows.fnPolAddRow = true := by kernel_rfl
theorem cf30 : (fun (P : Program) (f : FuncId) (fn : Func) (s : ChangeSpec) (c : OpenClaim) => ((c.veiled == (fn.params.toList ++ s.plain.varTypes P ++ fn.resultTypes.toList).any (P.veiledRec ·)) : Bool)) Try.prog 5 Try.f5 Rows.fnPolAddSpec Rows.fnPolAddRow = true := by kernel_rfl
theorem cf31 : (fun (P : Program) (f : FuncId) (fn : Func) (s : ChangeSpec) (c : OpenClaim) => (c.veiledFits P fn.params.toList (fn.params.toList ++ s.plain.varTypes P ++ fn.resultTypes.toList) : Bool)) Try.prog 5 Try.f5 Rows.fnPolAddSpec Rows.fnPolAddRow = true := by kernel_rfl

set_option maxRecDepth 100000 in
theorem closed : joinedFacts Try.prog 5 Try.f5 Rows.fnPolAddSpec Rows.fnPolAddRow = true := by
  unfold joinedFacts
  exact (band (band (band (band (band (band (band (band (band (band (band (band (band (band (band (band (band (band (band (band (band (band (band (band (band (band (band (band (band (band (band cf0 pf1) pf2) cf3) cf4) cf5) pf6) cf7) pf8) cf9) cf10) cf11) cf12) cf13) cf14) cf15) cf16) cf17) cf18) cf19) cf20) cf21) pf22) cf23) pf24) pf25) pf26) pf27) cf28) cf29) cf30) cf31)
theorem inst : Try.f5.isInstance Try.prog Rows.fnPolAddRow.origin Rows.fnPolAddRow.targs := of_decide_eq_true (by kernel_rfl)
theorem wrap_ : Try.f5.isWrapper Try.prog Rows.fnPolAddRow.wrapper Rows.fnPolAddRow.mainSum := by
  unfold Func.isWrapper
  rw [if_neg (by decide +kernel)]
  exact ⟨rfl, rfl⟩

theorem over : Rows.fnPolAddRow.holds Try.pinned (OpenSpec.ofChange Rows.fnPolAddSpec) :=
  OpenClaim.holds_of_wide 5 Try.f5 rfl rfl rfl rfl rfl rfl rfl ⟨rfl, rfl, rfl, rfl, rfl⟩ rfl rfl rfl rfl rfl (by as_aux_lemma => kernel_rfl) Try.func5 closed inst wrap_
    (fun os started H enc _ => lifted os started H enc)

theorem proved : Rows.FnPolAddSaid := over
#print axioms proved
end Go.Proofs.Ytcgelcaepkakaaa.fnPolAdd
