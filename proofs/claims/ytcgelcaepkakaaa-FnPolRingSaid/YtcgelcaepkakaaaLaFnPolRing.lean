/- The law FnPolRing: of three sums it is all one how they are added up, and what is multiplied with a sum of two is what is multiplied with each and then added. Conditions: none. -/
import Derived.Test.YtcgelcaepkakaaaRows
import Derived.WalkKit
import Derived.ProofKit
import Derived.OpenShut
import Derived.ShutString
import Derived.ChangeOld
import Derived.Below
import Derived.Carry
import Derived.Test.YtcgelcaepkakaaaF
import Derived.Test.YtcgelcaepkakaaaK
import Derived.Test.YtcgelcaepkakaaaPX
import Derived.Deep.RegionHeld3
namespace Go.Proofs.Ytcgelcaepkakaaa.fnPolRing
open Go.ChangeShapes Go.WideShapes Go.ChangeAt Go.RowKit
set_option linter.unusedVariables false
set_option linter.unusedSimpArgs false

set_option maxRecDepth 100000 in
set_option maxHeartbeats 2000000 in
theorem walk (A0 : Option Addr) (k0 : Nat) (bs0 : List Int) (A1 : Option Addr) (k1 : Nat) (bs1 : List Int) (w : World) (h0 : AB w A0 bs0) (s0 : bs0.length ≤ 9223372036854775807 ∧ bs0.length ≤ k0) (h1 : AB w A1 bs1) (s1 : bs1.length ≤ 9223372036854775807 ∧ bs1.length ≤ k1) :
    Calls Try.prog 10 #[.slice A0 bs0.length k0, .slice A1 bs1.length k1] w fun e w' => e = .returned (.bool true) ∧ Ext w w' := by
  by_cases hz : (1048576 : Int) < bs0.length
  · go_enter Try.func10, Try.ntmps10
    go_wp2
    go_ret
    exact ⟨rfl, (by repeat (first | with_reducible assumption | with_reducible exact Ext.refl _ | with_reducible apply Ext.drewN | with_reducible apply Ext.drew | with_reducible apply Ext.alloc | with_reducible refine Ext.set ?_ (by first | (simp; done) | (simp; omega)) _ | with_reducible refine Ext.next ?_ (by with_reducible assumption)))⟩
  by_cases hy : (1048576 : Int) < bs1.length
  · go_enter Try.func10, Try.ntmps10
    go_wp2
    go_ret
    exact ⟨rfl, (by repeat (first | with_reducible assumption | with_reducible exact Ext.refl _ | with_reducible apply Ext.drewN | with_reducible apply Ext.drew | with_reducible apply Ext.alloc | with_reducible refine Ext.set ?_ (by first | (simp; done) | (simp; omega)) _ | with_reducible refine Ext.next ?_ (by with_reducible assumption)))⟩
  go_enter Try.func10, Try.ntmps10
  go_wp2_with fail
  refine (drawAdd _ _ _ _ h0 s0.1 s0.2).mono ?_
  rintro e w1 ⟨A1, k1, ms1, A2, k2, ms2, rfl, G1, G2, hw1⟩
  have hs1 := G1.szM
  have hs2 := G2.szM
  have HA := hid G1
  have HB := hid G2
  clear G1 G2
  go_wp2_with fail
  refine (drawMul _ _ _ _ (h1.ext (by repeat (first | with_reducible assumption | with_reducible exact Ext.refl _ | with_reducible apply Ext.drewN | with_reducible apply Ext.drew | with_reducible apply Ext.alloc | with_reducible refine Ext.set ?_ (by first | (simp; done) | (simp; omega)) _ | with_reducible refine Ext.next ?_ (by with_reducible assumption)))) s1.1 s1.2).mono ?_
  rintro e w2 ⟨A3, k3, ms3, A4, k4, ms4, rfl, G3, G4, hw2⟩
  have c1 : w2.cell? ⟨w1.heap.size, 0, none⟩ = some (.slice A1 ms1.length k1) := keep hw2 (by go_simp)
  have z1 := World.block_lt_of_cell? _ _ c1
  simp only at z1
  have c2 : w2.cell? ⟨w1.heap.size + 1, 0, none⟩ = some (.slice A2 ms2.length k2) := keep hw2 (by go_simp)
  have z2 := World.block_lt_of_cell? _ _ c2
  simp only at z2
  have hs3 := G3.szM
  have HC := hid G3
  clear G3 G4
  obtain ⟨d1, b1, e1⟩ : ∃ d b, polAdd (ms1.map Mn.dat) (ms2.map Mn.dat) = (d, b) := ⟨_, _, rfl⟩
  obtain ⟨d2, b2, e2⟩ : ∃ d b, polAdd (ms2.map Mn.dat) (ms3.map Mn.dat) = (d, b) := ⟨_, _, rfl⟩
  obtain ⟨d6, b6, e6⟩ : ∃ d b, polMul (ms3.map Mn.dat) d1 = (d, b) := ⟨_, _, rfl⟩
  obtain ⟨d7, b7, e7⟩ : ∃ d b, polMul (ms3.map Mn.dat) (ms1.map Mn.dat) = (d, b) := ⟨_, _, rfl⟩
  obtain ⟨d8, b8, e8⟩ : ∃ d b, polMul (ms3.map Mn.dat) (ms2.map Mn.dat) = (d, b) := ⟨_, _, rfl⟩
  obtain ⟨d3, b3, e3⟩ : ∃ d b, polAdd d1 (ms3.map Mn.dat) = (d, b) := ⟨_, _, rfl⟩
  have HRA : Hid (b1 = true → b2 = true → polAdd (ms1.map Mn.dat) d2 = (d3, b3)) := hid fun h h' => by
    have := ring_add (a := ms1.map Mn.dat) (b := ms2.map Mn.dat) (c := ms3.map Mn.dat) (by rw [e1]; exact h) (by rw [e2]; exact h')
    rw [e1, e2] at this
    exact this.symm.trans e3
  have HRM0 : Hid (b1 = true → b6 = true → b7 = true → b8 = true → polAdd d7 d8 = (d6, true)) := hid fun h h6 h7 h8 => by
    have := ring_mul (a := ms1.map Mn.dat) (b := ms2.map Mn.dat) (c := ms3.map Mn.dat) (by rw [e1]; exact h) (by rw [e1, e6]; exact h6) (by rw [e7]; exact h7) (by rw [e8]; exact h8)
    rw [e1, e7, e8, e6, h6] at this
    exact this
  have HE1 := hid e1
  have HE2 := hid e2
  have HE3 := hid e3
  have HE6 := hid e6
  have HCA := hid e7
  have HCB := hid e8
  clear e1 e2 e3 e6 e7 e8
  go_wp2_with fail
  refine (implPolAdd_v _ _ _ _ ms1 ms2 _ (HA.out.rn.ext (by repeat (first | with_reducible assumption | with_reducible exact Ext.refl _ | with_reducible apply Ext.drewN | with_reducible apply Ext.drew | with_reducible apply Ext.alloc | with_reducible refine Ext.set ?_ (by first | (simp; done) | (simp; omega)) _ | with_reducible refine Ext.next ?_ (by with_reducible assumption)))) (HB.out.rn.ext (by repeat (first | with_reducible assumption | with_reducible exact Ext.refl _ | with_reducible apply Ext.drewN | with_reducible apply Ext.drew | with_reducible apply Ext.alloc | with_reducible refine Ext.set ?_ (by first | (simp; done) | (simp; omega)) _ | with_reducible refine Ext.next ?_ (by with_reducible assumption)))) hs1 hs2 HE1.out).mono ?_
  rintro e w3 ⟨A5, k5, ms5, rfl, hd5, hs5, ho5, hw3⟩
  replace c1 := keep (Ext.next (by repeat (first | with_reducible assumption | with_reducible exact Ext.refl _ | with_reducible apply Ext.drewN | with_reducible apply Ext.drew | with_reducible apply Ext.alloc | with_reducible refine Ext.set ?_ (by first | (simp; done) | (simp; omega)) _ | with_reducible refine Ext.next ?_ (by with_reducible assumption))) hw3) c1
  replace z1 := World.block_lt_of_cell? _ _ c1
  simp only at z1
  replace c2 := keep (Ext.next (by repeat (first | with_reducible assumption | with_reducible exact Ext.refl _ | with_reducible apply Ext.drewN | with_reducible apply Ext.drew | with_reducible apply Ext.alloc | with_reducible refine Ext.set ?_ (by first | (simp; done) | (simp; omega)) _ | with_reducible refine Ext.next ?_ (by with_reducible assumption))) hw3) c2
  replace z2 := World.block_lt_of_cell? _ _ c2
  simp only at z2
  have c3 : w3.cell? ⟨w2.heap.size, 0, none⟩ = some (.slice A3 ms3.length k3) := keep hw3 (by go_simp)
  have z3 := World.block_lt_of_cell? _ _ c3
  simp only at z3
  have HD5 := hid hd5
  have HS := hid ho5
  have HCS : Hid (polMul (ms3.map Mn.dat) (ms5.map Mn.dat) = (d6, b6)) := hid (by rw [hd5]; exact HE6.out)
  have HSC : Hid (polAdd (ms5.map Mn.dat) (ms3.map Mn.dat) = (d3, b3)) := hid (by rw [hd5]; exact HE3.out)
  clear hd5 ho5
  go_wp2_with fail
  refine (implPolAdd_v _ _ _ _ ms2 ms3 _ (HB.out.rn.ext (by repeat (first | with_reducible assumption | with_reducible exact Ext.refl _ | with_reducible apply Ext.drewN | with_reducible apply Ext.drew | with_reducible apply Ext.alloc | with_reducible refine Ext.set ?_ (by first | (simp; done) | (simp; omega)) _ | with_reducible refine Ext.next ?_ (by with_reducible assumption)))) (HC.out.rn.ext (by repeat (first | with_reducible assumption | with_reducible exact Ext.refl _ | with_reducible apply Ext.drewN | with_reducible apply Ext.drew | with_reducible apply Ext.alloc | with_reducible refine Ext.set ?_ (by first | (simp; done) | (simp; omega)) _ | with_reducible refine Ext.next ?_ (by with_reducible assumption)))) hs2 hs3 HE2.out).mono ?_
  rintro e w4 ⟨A6, k6, ms6, rfl, hd6, hs6, ho6, hw4⟩
  replace c1 := keep (Ext.next (by repeat (first | with_reducible assumption | with_reducible exact Ext.refl _ | with_reducible apply Ext.drewN | with_reducible apply Ext.drew | with_reducible apply Ext.alloc | with_reducible refine Ext.set ?_ (by first | (simp; done) | (simp; omega)) _ | with_reducible refine Ext.next ?_ (by with_reducible assumption))) hw4) c1
  replace z1 := World.block_lt_of_cell? _ _ c1
  simp only at z1
  replace c2 := keep (Ext.next (by repeat (first | with_reducible assumption | with_reducible exact Ext.refl _ | with_reducible apply Ext.drewN | with_reducible apply Ext.drew | with_reducible apply Ext.alloc | with_reducible refine Ext.set ?_ (by first | (simp; done) | (simp; omega)) _ | with_reducible refine Ext.next ?_ (by with_reducible assumption))) hw4) c2
  replace z2 := World.block_lt_of_cell? _ _ c2
  simp only at z2
  replace c3 := keep (Ext.next (by repeat (first | with_reducible assumption | with_reducible exact Ext.refl _ | with_reducible apply Ext.drewN | with_reducible apply Ext.drew | with_reducible apply Ext.alloc | with_reducible refine Ext.set ?_ (by first | (simp; done) | (simp; omega)) _ | with_reducible refine Ext.next ?_ (by with_reducible assumption))) hw4) c3
  replace z3 := World.block_lt_of_cell? _ _ c3
  simp only at z3
  have c5 : w4.cell? ⟨w3.heap.size, 0, none⟩ = some (.slice A5 ms5.length k5) := keep hw4 (by go_simp)
  have z5 := World.block_lt_of_cell? _ _ c5
  simp only at z5
  have HD6 := hid hd6
  have HT := hid ho6
  clear hd6 ho6
  cases b1
  · go_wp2_with fail
    refine (implPolMul_v _ _ _ _ ms3 ms5 _ (HC.out.rn.ext (by repeat (first | with_reducible assumption | with_reducible exact Ext.refl _ | with_reducible apply Ext.drewN | with_reducible apply Ext.drew | with_reducible apply Ext.alloc | with_reducible refine Ext.set ?_ (by first | (simp; done) | (simp; omega)) _ | with_reducible refine Ext.next ?_ (by with_reducible assumption)))) (HS.out.ext (by repeat (first | with_reducible assumption | with_reducible exact Ext.refl _ | with_reducible apply Ext.drewN | with_reducible apply Ext.drew | with_reducible apply Ext.alloc | with_reducible refine Ext.set ?_ (by first | (simp; done) | (simp; omega)) _ | with_reducible refine Ext.next ?_ (by with_reducible assumption)))) hs3 hs5 HCS.out).mono ?_
    rintro e w9 ⟨A9, k9, ms9, rfl, hd9, hs9, ho9, hw9⟩
    replace c1 := keep (Ext.next (by repeat (first | with_reducible assumption | with_reducible exact Ext.refl _ | with_reducible apply Ext.drewN | with_reducible apply Ext.drew | with_reducible apply Ext.alloc | with_reducible refine Ext.set ?_ (by first | (simp; done) | (simp; omega)) _ | with_reducible refine Ext.next ?_ (by with_reducible assumption))) hw9) c1
    replace z1 := World.block_lt_of_cell? _ _ c1
    simp only at z1
    replace c2 := keep (Ext.next (by repeat (first | with_reducible assumption | with_reducible exact Ext.refl _ | with_reducible apply Ext.drewN | with_reducible apply Ext.drew | with_reducible apply Ext.alloc | with_reducible refine Ext.set ?_ (by first | (simp; done) | (simp; omega)) _ | with_reducible refine Ext.next ?_ (by with_reducible assumption))) hw9) c2
    replace z2 := World.block_lt_of_cell? _ _ c2
    simp only at z2
    replace c3 := keep (Ext.next (by repeat (first | with_reducible assumption | with_reducible exact Ext.refl _ | with_reducible apply Ext.drewN | with_reducible apply Ext.drew | with_reducible apply Ext.alloc | with_reducible refine Ext.set ?_ (by first | (simp; done) | (simp; omega)) _ | with_reducible refine Ext.next ?_ (by with_reducible assumption))) hw9) c3
    replace z3 := World.block_lt_of_cell? _ _ c3
    simp only at z3
    replace c5 := keep (Ext.next (by repeat (first | with_reducible assumption | with_reducible exact Ext.refl _ | with_reducible apply Ext.drewN | with_reducible apply Ext.drew | with_reducible apply Ext.alloc | with_reducible refine Ext.set ?_ (by first | (simp; done) | (simp; omega)) _ | with_reducible refine Ext.next ?_ (by with_reducible assumption))) hw9) c5
    replace z5 := World.block_lt_of_cell? _ _ c5
    simp only at z5
    have HD9 := hid hd9
    have HP := hid ho9
    clear hd9 ho9
    go_wp2_with fail
    refine (implPolMul_v _ _ _ _ ms3 ms1 _ (HC.out.rn.ext (by repeat (first | with_reducible assumption | with_reducible exact Ext.refl _ | with_reducible apply Ext.drewN | with_reducible apply Ext.drew | with_reducible apply Ext.alloc | with_reducible refine Ext.set ?_ (by first | (simp; done) | (simp; omega)) _ | with_reducible refine Ext.next ?_ (by with_reducible assumption)))) (HA.out.rn.ext (by repeat (first | with_reducible assumption | with_reducible exact Ext.refl _ | with_reducible apply Ext.drewN | with_reducible apply Ext.drew | with_reducible apply Ext.alloc | with_reducible refine Ext.set ?_ (by first | (simp; done) | (simp; omega)) _ | with_reducible refine Ext.next ?_ (by with_reducible assumption)))) hs3 hs1 HCA.out).mono ?_
    rintro e w10 ⟨A10, k10, ms10, rfl, hd10, hs10, ho10, hw10⟩
    replace c1 := keep (Ext.next (by repeat (first | with_reducible assumption | with_reducible exact Ext.refl _ | with_reducible apply Ext.drewN | with_reducible apply Ext.drew | with_reducible apply Ext.alloc | with_reducible refine Ext.set ?_ (by first | (simp; done) | (simp; omega)) _ | with_reducible refine Ext.next ?_ (by with_reducible assumption))) hw10) c1
    replace z1 := World.block_lt_of_cell? _ _ c1
    simp only at z1
    replace c2 := keep (Ext.next (by repeat (first | with_reducible assumption | with_reducible exact Ext.refl _ | with_reducible apply Ext.drewN | with_reducible apply Ext.drew | with_reducible apply Ext.alloc | with_reducible refine Ext.set ?_ (by first | (simp; done) | (simp; omega)) _ | with_reducible refine Ext.next ?_ (by with_reducible assumption))) hw10) c2
    replace z2 := World.block_lt_of_cell? _ _ c2
    simp only at z2
    replace c3 := keep (Ext.next (by repeat (first | with_reducible assumption | with_reducible exact Ext.refl _ | with_reducible apply Ext.drewN | with_reducible apply Ext.drew | with_reducible apply Ext.alloc | with_reducible refine Ext.set ?_ (by first | (simp; done) | (simp; omega)) _ | with_reducible refine Ext.next ?_ (by with_reducible assumption))) hw10) c3
    replace z3 := World.block_lt_of_cell? _ _ c3
    simp only at z3
    replace c5 := keep (Ext.next (by repeat (first | with_reducible assumption | with_reducible exact Ext.refl _ | with_reducible apply Ext.drewN | with_reducible apply Ext.drew | with_reducible apply Ext.alloc | with_reducible refine Ext.set ?_ (by first | (simp; done) | (simp; omega)) _ | with_reducible refine Ext.next ?_ (by with_reducible assumption))) hw10) c5
    replace z5 := World.block_lt_of_cell? _ _ c5
    simp only at z5
    have c9 : w10.cell? ⟨w9.heap.size, 0, none⟩ = some (.slice A9 ms9.length k9) := keep hw10 (by go_simp)
    have z9 := World.block_lt_of_cell? _ _ c9
    simp only at z9
    have HD10 := hid hd10
    have HQ := hid ho10
    clear hd10 ho10
    go_wp2_with fail
    refine (implPolMul_v _ _ _ _ ms3 ms2 _ (HC.out.rn.ext (by repeat (first | with_reducible assumption | with_reducible exact Ext.refl _ | with_reducible apply Ext.drewN | with_reducible apply Ext.drew | with_reducible apply Ext.alloc | with_reducible refine Ext.set ?_ (by first | (simp; done) | (simp; omega)) _ | with_reducible refine Ext.next ?_ (by with_reducible assumption)))) (HB.out.rn.ext (by repeat (first | with_reducible assumption | with_reducible exact Ext.refl _ | with_reducible apply Ext.drewN | with_reducible apply Ext.drew | with_reducible apply Ext.alloc | with_reducible refine Ext.set ?_ (by first | (simp; done) | (simp; omega)) _ | with_reducible refine Ext.next ?_ (by with_reducible assumption)))) hs3 hs2 HCB.out).mono ?_
    rintro e w11 ⟨A11, k11, ms11, rfl, hd11, hs11, ho11, hw11⟩
    replace c9 := keep (Ext.next (by repeat (first | with_reducible assumption | with_reducible exact Ext.refl _ | with_reducible apply Ext.drewN | with_reducible apply Ext.drew | with_reducible apply Ext.alloc | with_reducible refine Ext.set ?_ (by first | (simp; done) | (simp; omega)) _ | with_reducible refine Ext.next ?_ (by with_reducible assumption))) hw11) c9
    replace z9 := World.block_lt_of_cell? _ _ c9
    simp only at z9
    have c10 : w11.cell? ⟨w10.heap.size, 0, none⟩ = some (.slice A10 ms10.length k10) := keep hw11 (by go_simp)
    have z10 := World.block_lt_of_cell? _ _ c10
    simp only at z10
    have HD11 := hid hd11
    have HR := hid ho11
    clear hd11 ho11 c1 c2 c3 c5 z1 z2 z3 z5
    go_wp2_with (go_at_call 17; refine (laOk_ _).mono ?_; rintro e w' ⟨rfl, rfl⟩)
    go_ret
    exact ⟨rfl, (by repeat (first | with_reducible assumption | with_reducible exact Ext.refl _ | with_reducible apply Ext.drewN | with_reducible apply Ext.drew | with_reducible apply Ext.alloc | with_reducible refine Ext.set ?_ (by first | (simp; done) | (simp; omega)) _ | with_reducible refine Ext.next ?_ (by with_reducible assumption)))⟩
  have HRM : Hid (b6 = true → b7 = true → b8 = true → polAdd d7 d8 = (d6, true)) := hid (HRM0.out rfl)
  cases b2
  · go_wp2_with fail
    refine (implPolMul_v _ _ _ _ ms3 ms5 _ (HC.out.rn.ext (by repeat (first | with_reducible assumption | with_reducible exact Ext.refl _ | with_reducible apply Ext.drewN | with_reducible apply Ext.drew | with_reducible apply Ext.alloc | with_reducible refine Ext.set ?_ (by first | (simp; done) | (simp; omega)) _ | with_reducible refine Ext.next ?_ (by with_reducible assumption)))) (HS.out.ext (by repeat (first | with_reducible assumption | with_reducible exact Ext.refl _ | with_reducible apply Ext.drewN | with_reducible apply Ext.drew | with_reducible apply Ext.alloc | with_reducible refine Ext.set ?_ (by first | (simp; done) | (simp; omega)) _ | with_reducible refine Ext.next ?_ (by with_reducible assumption)))) hs3 hs5 HCS.out).mono ?_
    rintro e w9 ⟨A9, k9, ms9, rfl, hd9, hs9, ho9, hw9⟩
    replace c1 := keep (Ext.next (by repeat (first | with_reducible assumption | with_reducible exact Ext.refl _ | with_reducible apply Ext.drewN | with_reducible apply Ext.drew | with_reducible apply Ext.alloc | with_reducible refine Ext.set ?_ (by first | (simp; done) | (simp; omega)) _ | with_reducible refine Ext.next ?_ (by with_reducible assumption))) hw9) c1
    replace z1 := World.block_lt_of_cell? _ _ c1
    simp only at z1
    replace c2 := keep (Ext.next (by repeat (first | with_reducible assumption | with_reducible exact Ext.refl _ | with_reducible apply Ext.drewN | with_reducible apply Ext.drew | with_reducible apply Ext.alloc | with_reducible refine Ext.set ?_ (by first | (simp; done) | (simp; omega)) _ | with_reducible refine Ext.next ?_ (by with_reducible assumption))) hw9) c2
    replace z2 := World.block_lt_of_cell? _ _ c2
    simp only at z2
    replace c3 := keep (Ext.next (by repeat (first | with_reducible assumption | with_reducible exact Ext.refl _ | with_reducible apply Ext.drewN | with_reducible apply Ext.drew | with_reducible apply Ext.alloc | with_reducible refine Ext.set ?_ (by first | (simp; done) | (simp; omega)) _ | with_reducible refine Ext.next ?_ (by with_reducible assumption))) hw9) c3
    replace z3 := World.block_lt_of_cell? _ _ c3
    simp only at z3
    replace c5 := keep (Ext.next (by repeat (first | with_reducible assumption | with_reducible exact Ext.refl _ | with_reducible apply Ext.drewN | with_reducible apply Ext.drew | with_reducible apply Ext.alloc | with_reducible refine Ext.set ?_ (by first | (simp; done) | (simp; omega)) _ | with_reducible refine Ext.next ?_ (by with_reducible assumption))) hw9) c5
    replace z5 := World.block_lt_of_cell? _ _ c5
    simp only at z5
    have HD9 := hid hd9
    have HP := hid ho9
    clear hd9 ho9
    go_wp2_with fail
    refine (implPolMul_v _ _ _ _ ms3 ms1 _ (HC.out.rn.ext (by repeat (first | with_reducible assumption | with_reducible exact Ext.refl _ | with_reducible apply Ext.drewN | with_reducible apply Ext.drew | with_reducible apply Ext.alloc | with_reducible refine Ext.set ?_ (by first | (simp; done) | (simp; omega)) _ | with_reducible refine Ext.next ?_ (by with_reducible assumption)))) (HA.out.rn.ext (by repeat (first | with_reducible assumption | with_reducible exact Ext.refl _ | with_reducible apply Ext.drewN | with_reducible apply Ext.drew | with_reducible apply Ext.alloc | with_reducible refine Ext.set ?_ (by first | (simp; done) | (simp; omega)) _ | with_reducible refine Ext.next ?_ (by with_reducible assumption)))) hs3 hs1 HCA.out).mono ?_
    rintro e w10 ⟨A10, k10, ms10, rfl, hd10, hs10, ho10, hw10⟩
    replace c1 := keep (Ext.next (by repeat (first | with_reducible assumption | with_reducible exact Ext.refl _ | with_reducible apply Ext.drewN | with_reducible apply Ext.drew | with_reducible apply Ext.alloc | with_reducible refine Ext.set ?_ (by first | (simp; done) | (simp; omega)) _ | with_reducible refine Ext.next ?_ (by with_reducible assumption))) hw10) c1
    replace z1 := World.block_lt_of_cell? _ _ c1
    simp only at z1
    replace c2 := keep (Ext.next (by repeat (first | with_reducible assumption | with_reducible exact Ext.refl _ | with_reducible apply Ext.drewN | with_reducible apply Ext.drew | with_reducible apply Ext.alloc | with_reducible refine Ext.set ?_ (by first | (simp; done) | (simp; omega)) _ | with_reducible refine Ext.next ?_ (by with_reducible assumption))) hw10) c2
    replace z2 := World.block_lt_of_cell? _ _ c2
    simp only at z2
    replace c3 := keep (Ext.next (by repeat (first | with_reducible assumption | with_reducible exact Ext.refl _ | with_reducible apply Ext.drewN | with_reducible apply Ext.drew | with_reducible apply Ext.alloc | with_reducible refine Ext.set ?_ (by first | (simp; done) | (simp; omega)) _ | with_reducible refine Ext.next ?_ (by with_reducible assumption))) hw10) c3
    replace z3 := World.block_lt_of_cell? _ _ c3
    simp only at z3
    replace c5 := keep (Ext.next (by repeat (first | with_reducible assumption | with_reducible exact Ext.refl _ | with_reducible apply Ext.drewN | with_reducible apply Ext.drew | with_reducible apply Ext.alloc | with_reducible refine Ext.set ?_ (by first | (simp; done) | (simp; omega)) _ | with_reducible refine Ext.next ?_ (by with_reducible assumption))) hw10) c5
    replace z5 := World.block_lt_of_cell? _ _ c5
    simp only at z5
    have c9 : w10.cell? ⟨w9.heap.size, 0, none⟩ = some (.slice A9 ms9.length k9) := keep hw10 (by go_simp)
    have z9 := World.block_lt_of_cell? _ _ c9
    simp only at z9
    have HD10 := hid hd10
    have HQ := hid ho10
    clear hd10 ho10
    go_wp2_with fail
    refine (implPolMul_v _ _ _ _ ms3 ms2 _ (HC.out.rn.ext (by repeat (first | with_reducible assumption | with_reducible exact Ext.refl _ | with_reducible apply Ext.drewN | with_reducible apply Ext.drew | with_reducible apply Ext.alloc | with_reducible refine Ext.set ?_ (by first | (simp; done) | (simp; omega)) _ | with_reducible refine Ext.next ?_ (by with_reducible assumption)))) (HB.out.rn.ext (by repeat (first | with_reducible assumption | with_reducible exact Ext.refl _ | with_reducible apply Ext.drewN | with_reducible apply Ext.drew | with_reducible apply Ext.alloc | with_reducible refine Ext.set ?_ (by first | (simp; done) | (simp; omega)) _ | with_reducible refine Ext.next ?_ (by with_reducible assumption)))) hs3 hs2 HCB.out).mono ?_
    rintro e w11 ⟨A11, k11, ms11, rfl, hd11, hs11, ho11, hw11⟩
    replace c9 := keep (Ext.next (by repeat (first | with_reducible assumption | with_reducible exact Ext.refl _ | with_reducible apply Ext.drewN | with_reducible apply Ext.drew | with_reducible apply Ext.alloc | with_reducible refine Ext.set ?_ (by first | (simp; done) | (simp; omega)) _ | with_reducible refine Ext.next ?_ (by with_reducible assumption))) hw11) c9
    replace z9 := World.block_lt_of_cell? _ _ c9
    simp only at z9
    have c10 : w11.cell? ⟨w10.heap.size, 0, none⟩ = some (.slice A10 ms10.length k10) := keep hw11 (by go_simp)
    have z10 := World.block_lt_of_cell? _ _ c10
    simp only at z10
    have HD11 := hid hd11
    have HR := hid ho11
    clear hd11 ho11 c1 c2 c3 c5 z1 z2 z3 z5
    cases b6
    · go_wp2_with (go_at_call 17; refine (laOk_ _).mono ?_; rintro e w' ⟨rfl, rfl⟩)
      go_ret
      exact ⟨rfl, (by repeat (first | with_reducible assumption | with_reducible exact Ext.refl _ | with_reducible apply Ext.drewN | with_reducible apply Ext.drew | with_reducible apply Ext.alloc | with_reducible refine Ext.set ?_ (by first | (simp; done) | (simp; omega)) _ | with_reducible refine Ext.next ?_ (by with_reducible assumption)))⟩
    cases b7
    · go_wp2_with (go_at_call 17; refine (laOk_ _).mono ?_; rintro e w' ⟨rfl, rfl⟩)
      go_ret
      exact ⟨rfl, (by repeat (first | with_reducible assumption | with_reducible exact Ext.refl _ | with_reducible apply Ext.drewN | with_reducible apply Ext.drew | with_reducible apply Ext.alloc | with_reducible refine Ext.set ?_ (by first | (simp; done) | (simp; omega)) _ | with_reducible refine Ext.next ?_ (by with_reducible assumption)))⟩
    cases b8
    · go_wp2_with (go_at_call 17; refine (laOk_ _).mono ?_; rintro e w' ⟨rfl, rfl⟩)
      go_ret
      exact ⟨rfl, (by repeat (first | with_reducible assumption | with_reducible exact Ext.refl _ | with_reducible apply Ext.drewN | with_reducible apply Ext.drew | with_reducible apply Ext.alloc | with_reducible refine Ext.set ?_ (by first | (simp; done) | (simp; omega)) _ | with_reducible refine Ext.next ?_ (by with_reducible assumption)))⟩
    have HZ : Hid (polAdd (ms10.map Mn.dat) (ms11.map Mn.dat) = (d6, true)) := hid (by rw [HD10.out, HD11.out]; exact HRM.out rfl rfl rfl)
    go_wp2_with fail
    refine (implPolAdd_v _ _ _ _ ms10 ms11 _ (HQ.out.ext (by repeat (first | with_reducible assumption | with_reducible exact Ext.refl _ | with_reducible apply Ext.drewN | with_reducible apply Ext.drew | with_reducible apply Ext.alloc | with_reducible refine Ext.set ?_ (by first | (simp; done) | (simp; omega)) _ | with_reducible refine Ext.next ?_ (by with_reducible assumption)))) (HR.out.ext (by repeat (first | with_reducible assumption | with_reducible exact Ext.refl _ | with_reducible apply Ext.drewN | with_reducible apply Ext.drew | with_reducible apply Ext.alloc | with_reducible refine Ext.set ?_ (by first | (simp; done) | (simp; omega)) _ | with_reducible refine Ext.next ?_ (by with_reducible assumption)))) hs10 hs11 HZ.out).mono ?_
    rintro e w12 ⟨A12, k12, ms12, rfl, hd12, hs12, ho12, hw12⟩
    replace c9 := keep (Ext.next (by repeat (first | with_reducible assumption | with_reducible exact Ext.refl _ | with_reducible apply Ext.drewN | with_reducible apply Ext.drew | with_reducible apply Ext.alloc | with_reducible refine Ext.set ?_ (by first | (simp; done) | (simp; omega)) _ | with_reducible refine Ext.next ?_ (by with_reducible assumption))) hw12) c9
    replace z9 := World.block_lt_of_cell? _ _ c9
    simp only at z9
    have HD12 := hid hd12
    have HO := hid ho12
    clear hd12 ho12
    go_wp2_with fail
    refine (laPoly_v _ _ _ _ ms9 ms12 _ (HP.out.rm.ext (by repeat (first | with_reducible assumption | with_reducible exact Ext.refl _ | with_reducible apply Ext.drewN | with_reducible apply Ext.drew | with_reducible apply Ext.alloc | with_reducible refine Ext.set ?_ (by first | (simp; done) | (simp; omega)) _ | with_reducible refine Ext.next ?_ (by with_reducible assumption)))) (HO.out.rm.ext (by repeat (first | with_reducible assumption | with_reducible exact Ext.refl _ | with_reducible apply Ext.drewN | with_reducible apply Ext.drew | with_reducible apply Ext.alloc | with_reducible refine Ext.set ?_ (by first | (simp; done) | (simp; omega)) _ | with_reducible refine Ext.next ?_ (by with_reducible assumption)))) hs9 hs12 (HD9.out.trans HD12.out.symm)).mono ?_
    rintro e w13 ⟨rfl, hw13⟩
    go_wp2_with (go_at_call 17; refine (laOk_ _).mono ?_; rintro e w' ⟨rfl, rfl⟩)
    go_ret
    exact ⟨rfl, (by repeat (first | with_reducible assumption | with_reducible exact Ext.refl _ | with_reducible apply Ext.drewN | with_reducible apply Ext.drew | with_reducible apply Ext.alloc | with_reducible refine Ext.set ?_ (by first | (simp; done) | (simp; omega)) _ | with_reducible refine Ext.next ?_ (by with_reducible assumption)))⟩
  have HAT : Hid (polAdd (ms1.map Mn.dat) (ms6.map Mn.dat) = (d3, b3)) := hid (by rw [HD6.out]; exact HRA.out rfl rfl)
  have hbq : (b3 != b3) = false := by simp
  go_wp2_with fail
  refine (implPolAdd_v _ _ _ _ ms5 ms3 _ (HS.out.ext (by repeat (first | with_reducible assumption | with_reducible exact Ext.refl _ | with_reducible apply Ext.drewN | with_reducible apply Ext.drew | with_reducible apply Ext.alloc | with_reducible refine Ext.set ?_ (by first | (simp; done) | (simp; omega)) _ | with_reducible refine Ext.next ?_ (by with_reducible assumption)))) (HC.out.rn.ext (by repeat (first | with_reducible assumption | with_reducible exact Ext.refl _ | with_reducible apply Ext.drewN | with_reducible apply Ext.drew | with_reducible apply Ext.alloc | with_reducible refine Ext.set ?_ (by first | (simp; done) | (simp; omega)) _ | with_reducible refine Ext.next ?_ (by with_reducible assumption)))) hs5 hs3 HSC.out).mono ?_
  rintro e w5 ⟨A7, k7, ms7, rfl, hd7, hs7, ho7, hw5⟩
  replace c1 := keep (Ext.next (by repeat (first | with_reducible assumption | with_reducible exact Ext.refl _ | with_reducible apply Ext.drewN | with_reducible apply Ext.drew | with_reducible apply Ext.alloc | with_reducible refine Ext.set ?_ (by first | (simp; done) | (simp; omega)) _ | with_reducible refine Ext.next ?_ (by with_reducible assumption))) hw5) c1
  replace z1 := World.block_lt_of_cell? _ _ c1
  simp only at z1
  replace c2 := keep (Ext.next (by repeat (first | with_reducible assumption | with_reducible exact Ext.refl _ | with_reducible apply Ext.drewN | with_reducible apply Ext.drew | with_reducible apply Ext.alloc | with_reducible refine Ext.set ?_ (by first | (simp; done) | (simp; omega)) _ | with_reducible refine Ext.next ?_ (by with_reducible assumption))) hw5) c2
  replace z2 := World.block_lt_of_cell? _ _ c2
  simp only at z2
  replace c3 := keep (Ext.next (by repeat (first | with_reducible assumption | with_reducible exact Ext.refl _ | with_reducible apply Ext.drewN | with_reducible apply Ext.drew | with_reducible apply Ext.alloc | with_reducible refine Ext.set ?_ (by first | (simp; done) | (simp; omega)) _ | with_reducible refine Ext.next ?_ (by with_reducible assumption))) hw5) c3
  replace z3 := World.block_lt_of_cell? _ _ c3
  simp only at z3
  replace c5 := keep (Ext.next (by repeat (first | with_reducible assumption | with_reducible exact Ext.refl _ | with_reducible apply Ext.drewN | with_reducible apply Ext.drew | with_reducible apply Ext.alloc | with_reducible refine Ext.set ?_ (by first | (simp; done) | (simp; omega)) _ | with_reducible refine Ext.next ?_ (by with_reducible assumption))) hw5) c5
  replace z5 := World.block_lt_of_cell? _ _ c5
  simp only at z5
  have c6 : w5.cell? ⟨w4.heap.size, 0, none⟩ = some (.slice A6 ms6.length k6) := keep hw5 (by go_simp)
  have z6 := World.block_lt_of_cell? _ _ c6
  simp only at z6
  have HD7 := hid hd7
  have HX := hid ho7
  clear hd7 ho7
  go_wp2_with fail
  refine (implPolAdd_v _ _ _ _ ms1 ms6 _ (HA.out.rn.ext (by repeat (first | with_reducible assumption | with_reducible exact Ext.refl _ | with_reducible apply Ext.drewN | with_reducible apply Ext.drew | with_reducible apply Ext.alloc | with_reducible refine Ext.set ?_ (by first | (simp; done) | (simp; omega)) _ | with_reducible refine Ext.next ?_ (by with_reducible assumption)))) (HT.out.ext (by repeat (first | with_reducible assumption | with_reducible exact Ext.refl _ | with_reducible apply Ext.drewN | with_reducible apply Ext.drew | with_reducible apply Ext.alloc | with_reducible refine Ext.set ?_ (by first | (simp; done) | (simp; omega)) _ | with_reducible refine Ext.next ?_ (by with_reducible assumption)))) hs1 hs6 HAT.out).mono ?_
  rintro e w6 ⟨A8, k8, ms8, rfl, hd8, hs8, ho8, hw6⟩
  replace c1 := keep (Ext.next (by repeat (first | with_reducible assumption | with_reducible exact Ext.refl _ | with_reducible apply Ext.drewN | with_reducible apply Ext.drew | with_reducible apply Ext.alloc | with_reducible refine Ext.set ?_ (by first | (simp; done) | (simp; omega)) _ | with_reducible refine Ext.next ?_ (by with_reducible assumption))) hw6) c1
  replace z1 := World.block_lt_of_cell? _ _ c1
  simp only at z1
  replace c2 := keep (Ext.next (by repeat (first | with_reducible assumption | with_reducible exact Ext.refl _ | with_reducible apply Ext.drewN | with_reducible apply Ext.drew | with_reducible apply Ext.alloc | with_reducible refine Ext.set ?_ (by first | (simp; done) | (simp; omega)) _ | with_reducible refine Ext.next ?_ (by with_reducible assumption))) hw6) c2
  replace z2 := World.block_lt_of_cell? _ _ c2
  simp only at z2
  replace c3 := keep (Ext.next (by repeat (first | with_reducible assumption | with_reducible exact Ext.refl _ | with_reducible apply Ext.drewN | with_reducible apply Ext.drew | with_reducible apply Ext.alloc | with_reducible refine Ext.set ?_ (by first | (simp; done) | (simp; omega)) _ | with_reducible refine Ext.next ?_ (by with_reducible assumption))) hw6) c3
  replace z3 := World.block_lt_of_cell? _ _ c3
  simp only at z3
  replace c5 := keep (Ext.next (by repeat (first | with_reducible assumption | with_reducible exact Ext.refl _ | with_reducible apply Ext.drewN | with_reducible apply Ext.drew | with_reducible apply Ext.alloc | with_reducible refine Ext.set ?_ (by first | (simp; done) | (simp; omega)) _ | with_reducible refine Ext.next ?_ (by with_reducible assumption))) hw6) c5
  replace z5 := World.block_lt_of_cell? _ _ c5
  simp only at z5
  have c7 : w6.cell? ⟨w5.heap.size, 0, none⟩ = some (.slice A7 ms7.length k7) := keep hw6 (by go_simp)
  have z7 := World.block_lt_of_cell? _ _ c7
  simp only at z7
  have HD8 := hid hd8
  have HY := hid ho8
  clear hd8 ho8 c6 z6
  go_wp2_with fail
  refine (laPoly_v _ _ _ _ ms7 ms8 _ (HX.out.rm.ext (by repeat (first | with_reducible assumption | with_reducible exact Ext.refl _ | with_reducible apply Ext.drewN | with_reducible apply Ext.drew | with_reducible apply Ext.alloc | with_reducible refine Ext.set ?_ (by first | (simp; done) | (simp; omega)) _ | with_reducible refine Ext.next ?_ (by with_reducible assumption)))) (HY.out.rm.ext (by repeat (first | with_reducible assumption | with_reducible exact Ext.refl _ | with_reducible apply Ext.drewN | with_reducible apply Ext.drew | with_reducible apply Ext.alloc | with_reducible refine Ext.set ?_ (by first | (simp; done) | (simp; omega)) _ | with_reducible refine Ext.next ?_ (by with_reducible assumption)))) hs7 hs8 (HD7.out.trans HD8.out.symm)).mono ?_
  rintro e w7 ⟨rfl, hw7⟩
  replace c1 := keep (Ext.next (by repeat (first | with_reducible assumption | with_reducible exact Ext.refl _ | with_reducible apply Ext.drewN | with_reducible apply Ext.drew | with_reducible apply Ext.alloc | with_reducible refine Ext.set ?_ (by first | (simp; done) | (simp; omega)) _ | with_reducible refine Ext.next ?_ (by with_reducible assumption))) hw7) c1
  replace z1 := World.block_lt_of_cell? _ _ c1
  simp only at z1
  replace c2 := keep (Ext.next (by repeat (first | with_reducible assumption | with_reducible exact Ext.refl _ | with_reducible apply Ext.drewN | with_reducible apply Ext.drew | with_reducible apply Ext.alloc | with_reducible refine Ext.set ?_ (by first | (simp; done) | (simp; omega)) _ | with_reducible refine Ext.next ?_ (by with_reducible assumption))) hw7) c2
  replace z2 := World.block_lt_of_cell? _ _ c2
  simp only at z2
  replace c3 := keep (Ext.next (by repeat (first | with_reducible assumption | with_reducible exact Ext.refl _ | with_reducible apply Ext.drewN | with_reducible apply Ext.drew | with_reducible apply Ext.alloc | with_reducible refine Ext.set ?_ (by first | (simp; done) | (simp; omega)) _ | with_reducible refine Ext.next ?_ (by with_reducible assumption))) hw7) c3
  replace z3 := World.block_lt_of_cell? _ _ c3
  simp only at z3
  replace c5 := keep (Ext.next (by repeat (first | with_reducible assumption | with_reducible exact Ext.refl _ | with_reducible apply Ext.drewN | with_reducible apply Ext.drew | with_reducible apply Ext.alloc | with_reducible refine Ext.set ?_ (by first | (simp; done) | (simp; omega)) _ | with_reducible refine Ext.next ?_ (by with_reducible assumption))) hw7) c5
  replace z5 := World.block_lt_of_cell? _ _ c5
  simp only at z5
  clear c7 z7 hbq
  go_wp2_with fail
  refine (implPolMul_v _ _ _ _ ms3 ms5 _ (HC.out.rn.ext (by repeat (first | with_reducible assumption | with_reducible exact Ext.refl _ | with_reducible apply Ext.drewN | with_reducible apply Ext.drew | with_reducible apply Ext.alloc | with_reducible refine Ext.set ?_ (by first | (simp; done) | (simp; omega)) _ | with_reducible refine Ext.next ?_ (by with_reducible assumption)))) (HS.out.ext (by repeat (first | with_reducible assumption | with_reducible exact Ext.refl _ | with_reducible apply Ext.drewN | with_reducible apply Ext.drew | with_reducible apply Ext.alloc | with_reducible refine Ext.set ?_ (by first | (simp; done) | (simp; omega)) _ | with_reducible refine Ext.next ?_ (by with_reducible assumption)))) hs3 hs5 HCS.out).mono ?_
  rintro e w9 ⟨A9, k9, ms9, rfl, hd9, hs9, ho9, hw9⟩
  replace c1 := keep (Ext.next (by repeat (first | with_reducible assumption | with_reducible exact Ext.refl _ | with_reducible apply Ext.drewN | with_reducible apply Ext.drew | with_reducible apply Ext.alloc | with_reducible refine Ext.set ?_ (by first | (simp; done) | (simp; omega)) _ | with_reducible refine Ext.next ?_ (by with_reducible assumption))) hw9) c1
  replace z1 := World.block_lt_of_cell? _ _ c1
  simp only at z1
  replace c2 := keep (Ext.next (by repeat (first | with_reducible assumption | with_reducible exact Ext.refl _ | with_reducible apply Ext.drewN | with_reducible apply Ext.drew | with_reducible apply Ext.alloc | with_reducible refine Ext.set ?_ (by first | (simp; done) | (simp; omega)) _ | with_reducible refine Ext.next ?_ (by with_reducible assumption))) hw9) c2
  replace z2 := World.block_lt_of_cell? _ _ c2
  simp only at z2
  replace c3 := keep (Ext.next (by repeat (first | with_reducible assumption | with_reducible exact Ext.refl _ | with_reducible apply Ext.drewN | with_reducible apply Ext.drew | with_reducible apply Ext.alloc | with_reducible refine Ext.set ?_ (by first | (simp; done) | (simp; omega)) _ | with_reducible refine Ext.next ?_ (by with_reducible assumption))) hw9) c3
  replace z3 := World.block_lt_of_cell? _ _ c3
  simp only at z3
  replace c5 := keep (Ext.next (by repeat (first | with_reducible assumption | with_reducible exact Ext.refl _ | with_reducible apply Ext.drewN | with_reducible apply Ext.drew | with_reducible apply Ext.alloc | with_reducible refine Ext.set ?_ (by first | (simp; done) | (simp; omega)) _ | with_reducible refine Ext.next ?_ (by with_reducible assumption))) hw9) c5
  replace z5 := World.block_lt_of_cell? _ _ c5
  simp only at z5
  have HD9 := hid hd9
  have HP := hid ho9
  clear hd9 ho9
  go_wp2_with fail
  refine (implPolMul_v _ _ _ _ ms3 ms1 _ (HC.out.rn.ext (by repeat (first | with_reducible assumption | with_reducible exact Ext.refl _ | with_reducible apply Ext.drewN | with_reducible apply Ext.drew | with_reducible apply Ext.alloc | with_reducible refine Ext.set ?_ (by first | (simp; done) | (simp; omega)) _ | with_reducible refine Ext.next ?_ (by with_reducible assumption)))) (HA.out.rn.ext (by repeat (first | with_reducible assumption | with_reducible exact Ext.refl _ | with_reducible apply Ext.drewN | with_reducible apply Ext.drew | with_reducible apply Ext.alloc | with_reducible refine Ext.set ?_ (by first | (simp; done) | (simp; omega)) _ | with_reducible refine Ext.next ?_ (by with_reducible assumption)))) hs3 hs1 HCA.out).mono ?_
  rintro e w10 ⟨A10, k10, ms10, rfl, hd10, hs10, ho10, hw10⟩
  replace c1 := keep (Ext.next (by repeat (first | with_reducible assumption | with_reducible exact Ext.refl _ | with_reducible apply Ext.drewN | with_reducible apply Ext.drew | with_reducible apply Ext.alloc | with_reducible refine Ext.set ?_ (by first | (simp; done) | (simp; omega)) _ | with_reducible refine Ext.next ?_ (by with_reducible assumption))) hw10) c1
  replace z1 := World.block_lt_of_cell? _ _ c1
  simp only at z1
  replace c2 := keep (Ext.next (by repeat (first | with_reducible assumption | with_reducible exact Ext.refl _ | with_reducible apply Ext.drewN | with_reducible apply Ext.drew | with_reducible apply Ext.alloc | with_reducible refine Ext.set ?_ (by first | (simp; done) | (simp; omega)) _ | with_reducible refine Ext.next ?_ (by with_reducible assumption))) hw10) c2
  replace z2 := World.block_lt_of_cell? _ _ c2
  simp only at z2
  replace c3 := keep (Ext.next (by repeat (first | with_reducible assumption | with_reducible exact Ext.refl _ | with_reducible apply Ext.drewN | with_reducible apply Ext.drew | with_reducible apply Ext.alloc | with_reducible refine Ext.set ?_ (by first | (simp; done) | (simp; omega)) _ | with_reducible refine Ext.next ?_ (by with_reducible assumption))) hw10) c3
  replace z3 := World.block_lt_of_cell? _ _ c3
  simp only at z3
  replace c5 := keep (Ext.next (by repeat (first | with_reducible assumption | with_reducible exact Ext.refl _ | with_reducible apply Ext.drewN | with_reducible apply Ext.drew | with_reducible apply Ext.alloc | with_reducible refine Ext.set ?_ (by first | (simp; done) | (simp; omega)) _ | with_reducible refine Ext.next ?_ (by with_reducible assumption))) hw10) c5
  replace z5 := World.block_lt_of_cell? _ _ c5
  simp only at z5
  have c9 : w10.cell? ⟨w9.heap.size, 0, none⟩ = some (.slice A9 ms9.length k9) := keep hw10 (by go_simp)
  have z9 := World.block_lt_of_cell? _ _ c9
  simp only at z9
  have HD10 := hid hd10
  have HQ := hid ho10
  clear hd10 ho10
  go_wp2_with fail
  refine (implPolMul_v _ _ _ _ ms3 ms2 _ (HC.out.rn.ext (by repeat (first | with_reducible assumption | with_reducible exact Ext.refl _ | with_reducible apply Ext.drewN | with_reducible apply Ext.drew | with_reducible apply Ext.alloc | with_reducible refine Ext.set ?_ (by first | (simp; done) | (simp; omega)) _ | with_reducible refine Ext.next ?_ (by with_reducible assumption)))) (HB.out.rn.ext (by repeat (first | with_reducible assumption | with_reducible exact Ext.refl _ | with_reducible apply Ext.drewN | with_reducible apply Ext.drew | with_reducible apply Ext.alloc | with_reducible refine Ext.set ?_ (by first | (simp; done) | (simp; omega)) _ | with_reducible refine Ext.next ?_ (by with_reducible assumption)))) hs3 hs2 HCB.out).mono ?_
  rintro e w11 ⟨A11, k11, ms11, rfl, hd11, hs11, ho11, hw11⟩
  replace c9 := keep (Ext.next (by repeat (first | with_reducible assumption | with_reducible exact Ext.refl _ | with_reducible apply Ext.drewN | with_reducible apply Ext.drew | with_reducible apply Ext.alloc | with_reducible refine Ext.set ?_ (by first | (simp; done) | (simp; omega)) _ | with_reducible refine Ext.next ?_ (by with_reducible assumption))) hw11) c9
  replace z9 := World.block_lt_of_cell? _ _ c9
  simp only at z9
  have c10 : w11.cell? ⟨w10.heap.size, 0, none⟩ = some (.slice A10 ms10.length k10) := keep hw11 (by go_simp)
  have z10 := World.block_lt_of_cell? _ _ c10
  simp only at z10
  have HD11 := hid hd11
  have HR := hid ho11
  clear hd11 ho11 c1 c2 c3 c5 z1 z2 z3 z5
  cases b6
  · go_wp2_with (go_at_call 17; refine (laOk_ _).mono ?_; rintro e w' ⟨rfl, rfl⟩)
    go_ret
    exact ⟨rfl, (by repeat (first | with_reducible assumption | with_reducible exact Ext.refl _ | with_reducible apply Ext.drewN | with_reducible apply Ext.drew | with_reducible apply Ext.alloc | with_reducible refine Ext.set ?_ (by first | (simp; done) | (simp; omega)) _ | with_reducible refine Ext.next ?_ (by with_reducible assumption)))⟩
  cases b7
  · go_wp2_with (go_at_call 17; refine (laOk_ _).mono ?_; rintro e w' ⟨rfl, rfl⟩)
    go_ret
    exact ⟨rfl, (by repeat (first | with_reducible assumption | with_reducible exact Ext.refl _ | with_reducible apply Ext.drewN | with_reducible apply Ext.drew | with_reducible apply Ext.alloc | with_reducible refine Ext.set ?_ (by first | (simp; done) | (simp; omega)) _ | with_reducible refine Ext.next ?_ (by with_reducible assumption)))⟩
  cases b8
  · go_wp2_with (go_at_call 17; refine (laOk_ _).mono ?_; rintro e w' ⟨rfl, rfl⟩)
    go_ret
    exact ⟨rfl, (by repeat (first | with_reducible assumption | with_reducible exact Ext.refl _ | with_reducible apply Ext.drewN | with_reducible apply Ext.drew | with_reducible apply Ext.alloc | with_reducible refine Ext.set ?_ (by first | (simp; done) | (simp; omega)) _ | with_reducible refine Ext.next ?_ (by with_reducible assumption)))⟩
  have HZ : Hid (polAdd (ms10.map Mn.dat) (ms11.map Mn.dat) = (d6, true)) := hid (by rw [HD10.out, HD11.out]; exact HRM.out rfl rfl rfl)
  go_wp2_with fail
  refine (implPolAdd_v _ _ _ _ ms10 ms11 _ (HQ.out.ext (by repeat (first | with_reducible assumption | with_reducible exact Ext.refl _ | with_reducible apply Ext.drewN | with_reducible apply Ext.drew | with_reducible apply Ext.alloc | with_reducible refine Ext.set ?_ (by first | (simp; done) | (simp; omega)) _ | with_reducible refine Ext.next ?_ (by with_reducible assumption)))) (HR.out.ext (by repeat (first | with_reducible assumption | with_reducible exact Ext.refl _ | with_reducible apply Ext.drewN | with_reducible apply Ext.drew | with_reducible apply Ext.alloc | with_reducible refine Ext.set ?_ (by first | (simp; done) | (simp; omega)) _ | with_reducible refine Ext.next ?_ (by with_reducible assumption)))) hs10 hs11 HZ.out).mono ?_
  rintro e w12 ⟨A12, k12, ms12, rfl, hd12, hs12, ho12, hw12⟩
  replace c9 := keep (Ext.next (by repeat (first | with_reducible assumption | with_reducible exact Ext.refl _ | with_reducible apply Ext.drewN | with_reducible apply Ext.drew | with_reducible apply Ext.alloc | with_reducible refine Ext.set ?_ (by first | (simp; done) | (simp; omega)) _ | with_reducible refine Ext.next ?_ (by with_reducible assumption))) hw12) c9
  replace z9 := World.block_lt_of_cell? _ _ c9
  simp only at z9
  have HD12 := hid hd12
  have HO := hid ho12
  clear hd12 ho12
  go_wp2_with fail
  refine (laPoly_v _ _ _ _ ms9 ms12 _ (HP.out.rm.ext (by repeat (first | with_reducible assumption | with_reducible exact Ext.refl _ | with_reducible apply Ext.drewN | with_reducible apply Ext.drew | with_reducible apply Ext.alloc | with_reducible refine Ext.set ?_ (by first | (simp; done) | (simp; omega)) _ | with_reducible refine Ext.next ?_ (by with_reducible assumption)))) (HO.out.rm.ext (by repeat (first | with_reducible assumption | with_reducible exact Ext.refl _ | with_reducible apply Ext.drewN | with_reducible apply Ext.drew | with_reducible apply Ext.alloc | with_reducible refine Ext.set ?_ (by first | (simp; done) | (simp; omega)) _ | with_reducible refine Ext.next ?_ (by with_reducible assumption)))) hs9 hs12 (HD9.out.trans HD12.out.symm)).mono ?_
  rintro e w13 ⟨rfl, hw13⟩
  go_wp2_with (go_at_call 17; refine (laOk_ _).mono ?_; rintro e w' ⟨rfl, rfl⟩)
  go_ret
  exact ⟨rfl, (by repeat (first | with_reducible assumption | with_reducible exact Ext.refl _ | with_reducible apply Ext.drewN | with_reducible apply Ext.drew | with_reducible apply Ext.alloc | with_reducible refine Ext.set ?_ (by first | (simp; done) | (simp; omega)) _ | with_reducible refine Ext.next ?_ (by with_reducible assumption)))⟩

set_option maxRecDepth 100000 in
theorem lifted (os : Os) (started : os.Started) (H : Type) (enc : TypeId × Value → H) :
    ReturnsInHanded {} Try.checked os 10 .any (Rows.fnPolRingSpec.pre6 enc Try.prog Try.f10 Rows.fnPolRingRow.domain false) (Rows.fnPolRingSpec.post enc Try.prog Try.f10 false true false false) := by
  refine returnsInHanded_of_change (C := Try.checked) ownKnob_ started (by kernel_rfl) Try.func10
    (ChangeSpec.witness6 (enc := enc) (C := Try.checked) false ⟨#[], #[.slice none 0 0, .slice none 0 0], []⟩ 8 (by kernel_rfl) (by kernel_rfl) (by kernel_rfl) (by kernel_rfl)) ?_
  intro W base args ds gs before hval0 hW hcnd _
  have hval : ∀ (j : Nat) t v, Try.f10.params[j]? = some t → args[j]? = some v → Value.okWide Try.prog W .any base t v := hval0
  have hW' := hW
  obtain ⟨p, q, hA0, hV, rfl, hfz, hnd⟩ := hW
  have hA : DataW.TrodAll enc Try.prog W 0 (fun _ => true) true Try.f10.params.toList args.toList ds p := hA0
  rw [Try.params10] at hA hval
  obtain ⟨v0, vs0, d0, ds0, p0, q0, hargs, rfl, rfl, g0, r0⟩ := trodAll_cons hA
  obtain ⟨v1, vs1, d1, ds1, p1, q1, rfl, rfl, rfl, g1, r1⟩ := trodAll_cons r0
  obtain ⟨rfl, rfl, rfl⟩ := trodAll_nil r1
  obtain rfl : args = #[v0, v1] := by cases args; simp_all
  obtain ⟨rfl, rfl⟩ := trodVars_none hV
  have lt0 : ∀ x ∈ p0, x.block < W.heap.size := by obtain ⟨m, hm⟩ := g0; exact DataW.trod_lt m _ _ _ hm
  obtain ⟨A0, k0, bs0, e0, h0, s0⟩ := read_bytes (hval 0 22 v0 rfl rfl) g0
  subst e0
  have lt1 : ∀ x ∈ p1, x.block < W.heap.size := by obtain ⟨m, hm⟩ := g1; exact DataW.trod_lt m _ _ _ hm
  obtain ⟨A1, k1, bs1, e1, h1, s1⟩ := read_bytes (hval 1 22 v1 rfl rfl) g1
  subst e1
  clear hA0 hval0
  refine (walk A0 k0 bs0 A1 k1 bs1 W h0 s0 h1 s1).mono fun e W' ⟨he, bel⟩ => ?_
  subst he
  exact ⟨_, rfl, _, _, _, [], _, [], hW', trodAll_mk1 (shut_bool Try.underlying4 _), (trodAll_cons_mk (Below.trod laidOut_ (by kernel_rfl) (of_decide_eq_true (by kernel_rfl)) g0 bel.out lt0) (trodAll_cons_mk (Below.trod laidOut_ (by kernel_rfl) (of_decide_eq_true (by kernel_rfl)) g1 bel.out lt1) trodAll_mk0)), rfl, bel.out.frame _, fun h => by cases h⟩
theorem cf0 : (fun (P : Program) (f : FuncId) (fn : Func) (s : ChangeSpec) (c : OpenClaim) => (c.wf (OpenSpec.ofChange s) : Bool)) Try.prog 10 Try.f10 Rows.fnPolRingSpec Rows.fnPolRingRow = true := by kernel_rfl
theorem cf3 : (fun (P : Program) (f : FuncId) (fn : Func) (s : ChangeSpec) (c : OpenClaim) => (fn.params.all (P.readableRec ·) : Bool)) Try.prog 10 Try.f10 Rows.fnPolRingSpec Rows.fnPolRingRow = true := by kernel_rfl
theorem cf4 : (fun (P : Program) (f : FuncId) (fn : Func) (s : ChangeSpec) (c : OpenClaim) => (namedTie P c.named s.vars : Bool)) Try.prog 10 Try.f10 Rows.fnPolRingSpec Rows.fnPolRingRow = true := by kernel_rfl
theorem cf5 : (fun (P : Program) (f : FuncId) (fn : Func) (s : ChangeSpec) (c : OpenClaim) => ((c.stops == []) : Bool)) Try.prog 10 Try.f10 Rows.fnPolRingSpec Rows.fnPolRingRow = true := by kernel_rfl
theorem cf7 : (fun (P : Program) (f : FuncId) (fn : Func) (s : ChangeSpec) (c : OpenClaim) => ((c.knobs == []) : Bool)) Try.prog 10 Try.f10 Rows.fnPolRingSpec Rows.fnPolRingRow = true := by kernel_rfl
theorem cf9 : (fun (P : Program) (f : FuncId) (fn : Func) (s : ChangeSpec) (c : OpenClaim) => ((c.inPlace == P.inPlace f) : Bool)) Try.prog 10 Try.f10 Rows.fnPolRingSpec Rows.fnPolRingRow = true := by kernel_rfl
theorem cf10 : (fun (P : Program) (f : FuncId) (fn : Func) (s : ChangeSpec) (c : OpenClaim) => ((c.unfollowed == P.unfollowed f) : Bool)) Try.prog 10 Try.f10 Rows.fnPolRingSpec Rows.fnPolRingRow = true := by kernel_rfl
theorem cf11 : (fun (P : Program) (f : FuncId) (fn : Func) (s : ChangeSpec) (c : OpenClaim) => ((c.recurses == P.recurses f) : Bool)) Try.prog 10 Try.f10 Rows.fnPolRingSpec Rows.fnPolRingRow = true := by kernel_rfl
theorem cf12 : (fun (P : Program) (f : FuncId) (fn : Func) (s : ChangeSpec) (c : OpenClaim) => ((c.named == P.varsNamed f) : Bool)) Try.prog 10 Try.f10 Rows.fnPolRingSpec Rows.fnPolRingRow = true := by kernel_rfl
theorem cf13 : (fun (P : Program) (f : FuncId) (fn : Func) (s : ChangeSpec) (c : OpenClaim) => ((c.maps == (fn.params.toList ++ s.plain.varTypes P).any (P.mapsRec ·)) : Bool)) Try.prog 10 Try.f10 Rows.fnPolRingSpec Rows.fnPolRingRow = true := by kernel_rfl
theorem cf14 : (fun (P : Program) (f : FuncId) (fn : Func) (s : ChangeSpec) (c : OpenClaim) => ((c.ifaces == (fn.params.toList ++ s.plain.varTypes P).any (P.ifacesRec ·)) : Bool)) Try.prog 10 Try.f10 Rows.fnPolRingSpec Rows.fnPolRingRow = true := by kernel_rfl
theorem cf15 : (fun (P : Program) (f : FuncId) (fn : Func) (s : ChangeSpec) (c : OpenClaim) => ((c.mapsOut == P.mapsAmong fn.resultTypes.toList) : Bool)) Try.prog 10 Try.f10 Rows.fnPolRingSpec Rows.fnPolRingRow = true := by kernel_rfl
theorem cf16 : (fun (P : Program) (f : FuncId) (fn : Func) (s : ChangeSpec) (c : OpenClaim) => ((c.loops == (fn.params.toList ++ s.plain.varTypes P).any (P.loopsFrom ·)) : Bool)) Try.prog 10 Try.f10 Rows.fnPolRingSpec Rows.fnPolRingRow = true := by kernel_rfl
theorem cf17 : (fun (P : Program) (f : FuncId) (fn : Func) (s : ChangeSpec) (c : OpenClaim) => ((c.wideKeys == (fn.params.toList ++ s.plain.varTypes P ++ fn.resultTypes.toList).any (P.wideKeysFrom ·)) : Bool)) Try.prog 10 Try.f10 Rows.fnPolRingSpec Rows.fnPolRingRow = true := by kernel_rfl
theorem cf18 : (fun (P : Program) (f : FuncId) (fn : Func) (s : ChangeSpec) (c : OpenClaim) => (s.vars.all (P.varReadable ·) : Bool)) Try.prog 10 Try.f10 Rows.fnPolRingSpec Rows.fnPolRingRow = true := by kernel_rfl
theorem cf19 : (fun (P : Program) (f : FuncId) (fn : Func) (s : ChangeSpec) (c : OpenClaim) => (fn.resultTypes.all (fun t => P.readableRec t && decide (t < P.types.size)) : Bool)) Try.prog 10 Try.f10 Rows.fnPolRingSpec Rows.fnPolRingRow = true := by kernel_rfl
theorem cf20 : (fun (P : Program) (f : FuncId) (fn : Func) (s : ChangeSpec) (c : OpenClaim) => ((c.ifacesOut == fn.resultTypes.toList.any (P.ifacesRec ·)) : Bool)) Try.prog 10 Try.f10 Rows.fnPolRingSpec Rows.fnPolRingRow = true := by kernel_rfl
theorem cf21 : (fun (P : Program) (f : FuncId) (fn : Func) (s : ChangeSpec) (c : OpenClaim) => ((c.loopsOut == fn.resultTypes.toList.any (P.loopsFrom ·)) : Bool)) Try.prog 10 Try.f10 Rows.fnPolRingSpec Rows.fnPolRingRow = true := by kernel_rfl
theorem cf23 : (fun (P : Program) (f : FuncId) (fn : Func) (s : ChangeSpec) (c : OpenClaim) => (c.shortTexts.isNone : Bool)) Try.prog 10 Try.f10 Rows.fnPolRingSpec Rows.fnPolRingRow = true := by kernel_rfl
theorem cf28 : (fun (P : Program) (f : FuncId) (fn : Func) (s : ChangeSpec) (c : OpenClaim) => ((c.kinds == (if c.domain.isEmpty then [] else fn.params.toList.map fun t => match P.underlying t with | some (.int k) => some k | _ => none)) : Bool)) Try.prog 10 Try.f10 Rows.fnPolRingSpec Rows.fnPolRingRow = true := by kernel_rfl
theorem cf29 : (fun (P : Program) (f : FuncId) (fn : Func) (s : ChangeSpec) (c : OpenClaim) => ((c.pinned == c.pinnedBy) : Bool)) Try.prog 10 Try.f10 Rows.fnPolRingSpec Rows.fnPolRingRow = true := by kernel_rfl
theorem cf30 : (fun (P : Program) (f : FuncId) (fn : Func) (s : ChangeSpec) (c : OpenClaim) => ((c.veiled == (fn.params.toList ++ s.plain.varTypes P ++ fn.resultTypes.toList).any (P.veiledRec ·)) : Bool)) Try.prog 10 Try.f10 Rows.fnPolRingSpec Rows.fnPolRingRow = true := by kernel_rfl
theorem cf31 : (fun (P : Program) (f : FuncId) (fn : Func) (s : ChangeSpec) (c : OpenClaim) => (c.veiledFits P fn.params.toList (fn.params.toList ++ s.plain.varTypes P ++ fn.resultTypes.toList) : Bool)) Try.prog 10 Try.f10 Rows.fnPolRingSpec Rows.fnPolRingRow = true := by kernel_rfl

set_option maxRecDepth 100000 in
theorem closed : joinedFacts Try.prog 10 Try.f10 Rows.fnPolRingSpec Rows.fnPolRingRow = true := by
  unfold joinedFacts
  exact (band (band (band (band (band (band (band (band (band (band (band (band (band (band (band (band (band (band (band (band (band (band (band (band (band (band (band (band (band (band (band cf0 pf1) pf2) cf3) cf4) cf5) pf6) cf7) pf8) cf9) cf10) cf11) cf12) cf13) cf14) cf15) cf16) cf17) cf18) cf19) cf20) cf21) pf22) cf23) pf24) pf25) pf26) pf27) cf28) cf29) cf30) cf31)
theorem inst : Try.f10.isInstance Try.prog Rows.fnPolRingRow.origin Rows.fnPolRingRow.targs := of_decide_eq_true (by kernel_rfl)
theorem wrap_ : Try.f10.isWrapper Try.prog Rows.fnPolRingRow.wrapper Rows.fnPolRingRow.mainSum := by
  unfold Func.isWrapper
  rw [if_neg (by decide +kernel)]
  exact ⟨rfl, rfl⟩

theorem over : Rows.fnPolRingRow.holds Try.pinned (OpenSpec.ofChange Rows.fnPolRingSpec) :=
  OpenClaim.holds_of_wide 10 Try.f10 rfl rfl rfl rfl rfl rfl rfl ⟨rfl, rfl, rfl, rfl, rfl⟩ rfl rfl rfl rfl rfl (by as_aux_lemma => kernel_rfl) Try.func10 closed inst wrap_
    (fun os started H enc _ => lifted os started H enc)

theorem proved : Rows.FnPolRingSaid := over
#print axioms proved
end Go.Proofs.Ytcgelcaepkakaaa.fnPolRing
