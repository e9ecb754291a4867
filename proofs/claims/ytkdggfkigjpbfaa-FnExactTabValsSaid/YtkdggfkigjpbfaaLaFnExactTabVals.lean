/- The law FnExactTabVals: TabVals returns what the reference's TabVals returns, for every table and every three lists of words, in memory of its own, and leaves them as they are. Conditions: none. -/
import Derived.Test.YtkdggfkigjpbfaaRows
import Derived.WalkKit
import Derived.ProofKit
import Derived.OpenShut
import Derived.ShutString
import Derived.ChangeOld
import Derived.Below
import Derived.Carry
import Derived.Test.YtkdggfkigjpbfaaF
import Derived.Test.YtkdggfkigjpbfaaK
import Derived.Test.YtkdggfkigjpbfaaTK
import Derived.Deep.RegionHeld3
namespace Go.Proofs.Ytkdggfkigjpbfaa.fnExactTabVals
open Go.ChangeShapes Go.WideShapes Go.ChangeAt Go.RowKit
set_option linter.unusedVariables false
set_option linter.unusedSimpArgs false

theorem specTabVals_v (A A1 A2 A3 : Option Addr) (k c1 c2 c3 : Nat) (ts : List Tn) (rs ls is : List Int) (w : World) (h : RT 46 72 3 w A ts) (hs : SzT ts)
    (h1 : RI 3 w A1 rs) (h2 : RI 3 w A2 ls) (h3 : RI 3 w A3 is) (n1 : rs.length < 4611686018427387904) (n2 : ls.length < 4611686018427387904) (n3 : is.length < 4611686018427387904) {vs : List Int} (hv : tabVals (ts.map Tn.dat) rs ls is = vs) :
    Calls Try.prog 10 #[.agg #[.slice A ts.length k], .slice A1 rs.length c1, .slice A2 ls.length c2, .slice A3 is.length c3] w (RetI 3 w vs) := by
  subst hv
  exact specTabVals A A1 A2 A3 k c1 c2 c3 ts rs ls is w h hs h1 h2 h3 n1 n2 n3
theorem implTabVals_v (A A1 A2 A3 : Option Addr) (k c1 c2 c3 : Nat) (ts : List Tn) (rs ls is : List Int) (w : World) (h : RT 46 72 3 w A ts) (hs : SzT ts)
    (h1 : RI 3 w A1 rs) (h2 : RI 3 w A2 ls) (h3 : RI 3 w A3 is) (n1 : rs.length < 4611686018427387904) (n2 : ls.length < 4611686018427387904) (n3 : is.length < 4611686018427387904) {vs : List Int} (hv : tabVals (ts.map Tn.dat) rs ls is = vs) :
    Calls Try.prog 12 #[.agg #[.slice A ts.length k], .slice A1 rs.length c1, .slice A2 ls.length c2, .slice A3 is.length c3] w (RetI 3 w vs) := by
  subst hv
  exact implTabVals A A1 A2 A3 k c1 c2 c3 ts rs ls is w h hs h1 h2 h3 n1 n2 n3
theorem tabVals_short (d : List Atm) (rs ls is : List Int) : (tabVals d rs ls is).length ≤ 200 := by
  unfold tabVals
  cases h : valsOk d rs ls is
  · simp
  · have ht : tabOk d = true := by unfold valsOk at h; rw [Bool.and_eq_true] at h; exact h.1
    have := tabOk_len ht
    simp only [if_true, tabRun_length]
    exact this
theorem OI.upq {TI : TypeId} {w w' : World} {lo k : Nat} {A : Option Addr} {xs : List Int} {S : Nat → Prop} (h : OI TI w lo A k xs) (he : Upd S w w') (hs : ∀ b, atB A b → ¬ S b) : OI TI w' lo A k xs := own_upd' h he hs
theorem heap_alloc_size (w : World) (o : Obj) : (w.alloc o).heap.size = w.heap.size + 1 := by simp

set_option maxRecDepth 100000 in
set_option maxHeartbeats 2000000 in
theorem walk (A0 : Option Addr) (k0 : Nat) (ts0 : List Tn) (A1 : Option Addr) (k1 : Nat) (xs1 : List Int) (A2 : Option Addr) (k2 : Nat) (xs2 : List Int) (A3 : Option Addr) (k3 : Nat) (xs3 : List Int) (w : World) (h0 : AT w A0 ts0) (s0 : SzAT ts0) (h1 : AI w A1 xs1) (s1 : xs1.length ≤ 9223372036854775807) (h2 : AI w A2 xs2) (s2 : xs2.length ≤ 9223372036854775807) (h3 : AI w A3 xs3) (s3 : xs3.length ≤ 9223372036854775807) :
    Calls Try.prog 4 #[.agg #[.slice A0 ts0.length k0], .slice A1 xs1.length k1, .slice A2 xs2.length k2, .slice A3 xs3.length k3] w fun e w' => e = .returned (.bool true) ∧ Ext w w' := by
  by_cases q1 : (1048576 : Int) < xs1.length
  · go_enter Try.func4, Try.ntmps4
    go_wp2
    go_ret
    exact ⟨rfl, (by repeat (first | with_reducible assumption | with_reducible exact Ext.refl _ | with_reducible apply Ext.drewN | with_reducible apply Ext.drew | with_reducible apply Ext.alloc | with_reducible refine Ext.set ?_ (by first | (simp; done) | (simp; omega)) _ | with_reducible refine Ext.next ?_ (by with_reducible assumption)))⟩
  by_cases q2 : (1048576 : Int) < xs2.length
  · go_enter Try.func4, Try.ntmps4
    go_wp2
    go_ret
    exact ⟨rfl, (by repeat (first | with_reducible assumption | with_reducible exact Ext.refl _ | with_reducible apply Ext.drewN | with_reducible apply Ext.drew | with_reducible apply Ext.alloc | with_reducible refine Ext.set ?_ (by first | (simp; done) | (simp; omega)) _ | with_reducible refine Ext.next ?_ (by with_reducible assumption)))⟩
  by_cases q3 : (1048576 : Int) < xs3.length
  · go_enter Try.func4, Try.ntmps4
    go_wp2
    go_ret
    exact ⟨rfl, (by repeat (first | with_reducible assumption | with_reducible exact Ext.refl _ | with_reducible apply Ext.drewN | with_reducible apply Ext.drew | with_reducible apply Ext.alloc | with_reducible refine Ext.set ?_ (by first | (simp; done) | (simp; omega)) _ | with_reducible refine Ext.next ?_ (by with_reducible assumption)))⟩
  by_cases hq : (1048576 : Int) < totT ts0
  · have e1 := hid (szF_lt hq)
    have hb : szF 1048576 (totT ts0) < 0 := by rw [szF_lt hq]; omega
    go_enter Try.func4, Try.ntmps4
    go_wp2_with fail
    refine (szTab _ _ _ _ _ (h0.ext (by repeat (first | with_reducible assumption | with_reducible exact Ext.refl _ | with_reducible apply Ext.drewN | with_reducible apply Ext.drew | with_reducible apply Ext.alloc | with_reducible refine Ext.set ?_ (by first | (simp; done) | (simp; omega)) _ | with_reducible refine Ext.next ?_ (by with_reducible assumption)))) s0 (by omega) (by omega)).mono ?_
    rintro e w1 ⟨rfl, hw1⟩
    go_wp2
    go_ret
    exact ⟨rfl, (by repeat (first | with_reducible assumption | with_reducible exact Ext.refl _ | with_reducible apply Ext.drewN | with_reducible apply Ext.drew | with_reducible apply Ext.alloc | with_reducible refine Ext.set ?_ (by first | (simp; done) | (simp; omega)) _ | with_reducible refine Ext.next ?_ (by with_reducible assumption)))⟩
  have hb : 0 ≤ szF 1048576 (totT ts0) := by rw [szF_ge (by omega)]; omega
  have ht : totT ts0 ≤ 1048576 := by omega
  have n1 : xs1.length ≤ 1048576 := by omega
  have n2 : xs2.length ≤ 1048576 := by omega
  have n3 : xs3.length ≤ 1048576 := by omega
  obtain ⟨vs, hvs⟩ : ∃ vs, tabVals (ts0.map Tn.dat) xs1 xs2 xs3 = vs := ⟨_, rfl⟩
  have hvl : vs.length ≤ 200 := by rw [← hvs]; exact tabVals_short _ _ _ _
  have HVS : Hid (∀ ts : List Tn, ts.map Tn.dat = ts0.map Tn.dat → tabVals (ts.map Tn.dat) xs1 xs2 xs3 = vs) := hid fun ts e => by rw [e]; exact hvs
  clear hq hvs
  go_enter Try.func4, Try.ntmps4
  go_wp2_with fail
  refine (szTab _ _ _ _ _ (h0.ext (by repeat (first | with_reducible assumption | with_reducible exact Ext.refl _ | with_reducible apply Ext.drewN | with_reducible apply Ext.drew | with_reducible apply Ext.alloc | with_reducible refine Ext.set ?_ (by first | (simp; done) | (simp; omega)) _ | with_reducible refine Ext.next ?_ (by with_reducible assumption)))) s0 (by omega) (by omega)).mono ?_
  rintro e w1 ⟨rfl, hw1⟩
  have c1 : w1.cell? ⟨w.heap.size, 0, none⟩ = some (.slice A0 ts0.length k0) := keep hw1 (by go_simp)
  have HX1 : Hid (Ext w w1) := hid (by repeat (first | with_reducible assumption | with_reducible exact Ext.refl _ | with_reducible apply Ext.drewN | with_reducible apply Ext.drew | with_reducible apply Ext.alloc | with_reducible refine Ext.set ?_ (by first | (simp; done) | (simp; omega)) _ | with_reducible refine Ext.next ?_ (by with_reducible assumption)))
  clear hw1
  go_wp2_with fail
  refine (toTab _ _ _ _ (h0.ext (HX1.out.next (by repeat (first | with_reducible assumption | with_reducible exact Ext.refl _ | with_reducible apply Ext.drewN | with_reducible apply Ext.drew | with_reducible apply Ext.alloc | with_reducible refine Ext.set ?_ (by first | (simp; done) | (simp; omega)) _ | with_reducible refine Ext.next ?_ (by with_reducible assumption))))) ht).mono ?_
  rintro e w2 ⟨A4, k4, ts4, rfl, hd4, ho4, hw2⟩
  have HD4 := hid hd4
  have hs4 := SzT.of_dat hd4 ht
  have HO4 := hid ho4.rt
  clear hd4 ho4
  go_wp2_with fail
  refine (toIntS _ _ _ _ (h1.ext (HX1.out.next (by repeat (first | with_reducible assumption | with_reducible exact Ext.refl _ | with_reducible apply Ext.drewN | with_reducible apply Ext.drew | with_reducible apply Ext.alloc | with_reducible refine Ext.set ?_ (by first | (simp; done) | (simp; omega)) _ | with_reducible refine Ext.next ?_ (by with_reducible assumption))))) n1).mono ?_
  rintro e w3 ⟨A5, k5, rfl, ho5, hw3⟩
  go_wp2_with fail
  refine (toIntS _ _ _ _ (h2.ext (HX1.out.next (by repeat (first | with_reducible assumption | with_reducible exact Ext.refl _ | with_reducible apply Ext.drewN | with_reducible apply Ext.drew | with_reducible apply Ext.alloc | with_reducible refine Ext.set ?_ (by first | (simp; done) | (simp; omega)) _ | with_reducible refine Ext.next ?_ (by with_reducible assumption))))) n2).mono ?_
  rintro e w4 ⟨A6, k6, rfl, ho6, hw4⟩
  go_wp2_with fail
  refine (toIntS _ _ _ _ (h3.ext (HX1.out.next (by repeat (first | with_reducible assumption | with_reducible exact Ext.refl _ | with_reducible apply Ext.drewN | with_reducible apply Ext.drew | with_reducible apply Ext.alloc | with_reducible refine Ext.set ?_ (by first | (simp; done) | (simp; omega)) _ | with_reducible refine Ext.next ?_ (by with_reducible assumption))))) n3).mono ?_
  rintro e w5 ⟨A7, k7, rfl, ho7, hw5⟩
  go_wp2_with fail
  refine (specTabVals_v _ _ _ _ _ _ _ _ ts4 xs1 xs2 xs3 _ (HO4.out.ext (by repeat (first | with_reducible assumption | with_reducible exact Ext.refl _ | with_reducible apply Ext.drewN | with_reducible apply Ext.drew | with_reducible apply Ext.alloc | with_reducible refine Ext.set ?_ (by first | (simp; done) | (simp; omega)) _ | with_reducible refine Ext.next ?_ (by with_reducible assumption)))) hs4 (ho5.ri.ext (by repeat (first | with_reducible assumption | with_reducible exact Ext.refl _ | with_reducible apply Ext.drewN | with_reducible apply Ext.drew | with_reducible apply Ext.alloc | with_reducible refine Ext.set ?_ (by first | (simp; done) | (simp; omega)) _ | with_reducible refine Ext.next ?_ (by with_reducible assumption)))) (ho6.ri.ext (by repeat (first | with_reducible assumption | with_reducible exact Ext.refl _ | with_reducible apply Ext.drewN | with_reducible apply Ext.drew | with_reducible apply Ext.alloc | with_reducible refine Ext.set ?_ (by first | (simp; done) | (simp; omega)) _ | with_reducible refine Ext.next ?_ (by with_reducible assumption)))) (ho7.ri.ext (by repeat (first | with_reducible assumption | with_reducible exact Ext.refl _ | with_reducible apply Ext.drewN | with_reducible apply Ext.drew | with_reducible apply Ext.alloc | with_reducible refine Ext.set ?_ (by first | (simp; done) | (simp; omega)) _ | with_reducible refine Ext.next ?_ (by with_reducible assumption)))) (by omega) (by omega) (by omega) (HVS.out ts4 HD4.out)).mono ?_
  rintro e w6 ⟨B, kB, rfl, hoB, hw6⟩
  have HB := hid hoB.ri
  have HX16 : Hid (Ext w1 w6) := hid (by repeat (first | with_reducible assumption | with_reducible exact Ext.refl _ | with_reducible apply Ext.drewN | with_reducible apply Ext.drew | with_reducible apply Ext.alloc | with_reducible refine Ext.set ?_ (by first | (simp; done) | (simp; omega)) _ | with_reducible refine Ext.next ?_ (by with_reducible assumption)))
  have HX6 : Hid (Ext w w6) := hid (HX1.out.next HX16.out)
  have c6 := keep HX16.out c1
  have z6 := World.block_lt_of_cell? _ _ c6
  simp only at z6
  clear ho5 ho6 ho7 hoB hw2 hw3 hw4 hw5 hw6 hs4 c1 HO4
  go_wp2_with fail
  refine (toTab _ _ _ _ (h0.ext (HX6.out.next (by repeat (first | with_reducible assumption | with_reducible exact Ext.refl _ | with_reducible apply Ext.drewN | with_reducible apply Ext.drew | with_reducible apply Ext.alloc | with_reducible refine Ext.set ?_ (by first | (simp; done) | (simp; omega)) _ | with_reducible refine Ext.next ?_ (by with_reducible assumption))))) ht).mono ?_
  rintro e w7 ⟨Ax, kx, tx, rfl, hdx, hox, hw7⟩
  have HDx := hid hdx
  have hsx := SzT.of_dat hdx ht
  have htx : totT tx ≤ 1048576 := by rw [totT_dat hdx]; exact ht
  have hlx := totT_len tx
  have HOx := hid hox
  have HX7 : Hid (Ext w6 w7) := hid (by repeat (first | with_reducible assumption | with_reducible exact Ext.refl _ | with_reducible apply Ext.drewN | with_reducible apply Ext.drew | with_reducible apply Ext.alloc | with_reducible refine Ext.set ?_ (by first | (simp; done) | (simp; omega)) _ | with_reducible refine Ext.next ?_ (by with_reducible assumption)))
  have c7 := keep HX7.out c6
  have z7 := World.block_lt_of_cell? _ _ c7
  simp only at z7
  clear hdx hox hw7
  go_wp2_with fail
  refine (toIntS _ _ _ _ (h1.ext (HX6.out.next (HX7.out.next (by repeat (first | with_reducible assumption | with_reducible exact Ext.refl _ | with_reducible apply Ext.drewN | with_reducible apply Ext.drew | with_reducible apply Ext.alloc | with_reducible refine Ext.set ?_ (by first | (simp; done) | (simp; omega)) _ | with_reducible refine Ext.next ?_ (by with_reducible assumption)))))) n1).mono ?_
  rintro e w8 ⟨P1, j1, rfl, hp1, hw8⟩
  have d8 : w8.cell? ⟨w7.heap.size, 0, none⟩ = some (.slice Ax tx.length kx) := keep hw8 (by go_simp)
  have HX8 : Hid (Ext w7 w8) := hid (by repeat (first | with_reducible assumption | with_reducible exact Ext.refl _ | with_reducible apply Ext.drewN | with_reducible apply Ext.drew | with_reducible apply Ext.alloc | with_reducible refine Ext.set ?_ (by first | (simp; done) | (simp; omega)) _ | with_reducible refine Ext.next ?_ (by with_reducible assumption)))
  have HP1 := hid hp1
  have y8 := hw8.size
  simp at y8
  clear hp1 hw8
  go_wp2_with fail
  refine (toIntS _ _ _ _ (h2.ext (HX6.out.next (HX7.out.next (HX8.out.next (by repeat (first | with_reducible assumption | with_reducible exact Ext.refl _ | with_reducible apply Ext.drewN | with_reducible apply Ext.drew | with_reducible apply Ext.alloc | with_reducible refine Ext.set ?_ (by first | (simp; done) | (simp; omega)) _ | with_reducible refine Ext.next ?_ (by with_reducible assumption))))))) n2).mono ?_
  rintro e w9 ⟨P2, j2, rfl, hp2, hw9⟩
  have HP2 := hid hp2
  have y9 := hw9.size
  go_wp2_with fail
  refine (toIntS _ _ _ _ (h3.ext (HX6.out.next (HX7.out.next (HX8.out.next (by repeat (first | with_reducible assumption | with_reducible exact Ext.refl _ | with_reducible apply Ext.drewN | with_reducible apply Ext.drew | with_reducible apply Ext.alloc | with_reducible refine Ext.set ?_ (by first | (simp; done) | (simp; omega)) _ | with_reducible refine Ext.next ?_ (by with_reducible assumption))))))) n3).mono ?_
  rintro e w10 ⟨P3, j3, rfl, hp3, hw10⟩
  have HP3 := hid hp3
  have y10 := hw10.size
  have HX810 : Hid (Ext w8 w10) := hid (by repeat (first | with_reducible assumption | with_reducible exact Ext.refl _ | with_reducible apply Ext.drewN | with_reducible apply Ext.drew | with_reducible apply Ext.alloc | with_reducible refine Ext.set ?_ (by first | (simp; done) | (simp; omega)) _ | with_reducible refine Ext.next ?_ (by with_reducible assumption)))
  have HX910 : Hid (Ext w9 w10) := hid (by repeat (first | with_reducible assumption | with_reducible exact Ext.refl _ | with_reducible apply Ext.drewN | with_reducible apply Ext.drew | with_reducible apply Ext.alloc | with_reducible refine Ext.set ?_ (by first | (simp; done) | (simp; omega)) _ | with_reducible refine Ext.next ?_ (by with_reducible assumption)))
  have d10 := keep HX810.out d8
  have z10 := World.block_lt_of_cell? _ _ d10
  simp only at z10
  have HX710 : Hid (Ext w7 w10) := hid (HX8.out.next HX810.out)
  have HX610 : Hid (Ext w6 w10) := hid (HX7.out.next HX710.out)
  clear hp2 hp3 hw9 hw10 d8
  go_wp2_with fail
  refine (implTabVals_v _ _ _ _ _ _ _ _ tx xs1 xs2 xs3 _ (HOx.out.rt.ext (HX710.out.next (by repeat (first | with_reducible assumption | with_reducible exact Ext.refl _ | with_reducible apply Ext.drewN | with_reducible apply Ext.drew | with_reducible apply Ext.alloc | with_reducible refine Ext.set ?_ (by first | (simp; done) | (simp; omega)) _ | with_reducible refine Ext.next ?_ (by with_reducible assumption))))) hsx (HP1.out.ri.ext (HX810.out.next (by repeat (first | with_reducible assumption | with_reducible exact Ext.refl _ | with_reducible apply Ext.drewN | with_reducible apply Ext.drew | with_reducible apply Ext.alloc | with_reducible refine Ext.set ?_ (by first | (simp; done) | (simp; omega)) _ | with_reducible refine Ext.next ?_ (by with_reducible assumption))))) (HP2.out.ri.ext (HX910.out.next (by repeat (first | with_reducible assumption | with_reducible exact Ext.refl _ | with_reducible apply Ext.drewN | with_reducible apply Ext.drew | with_reducible apply Ext.alloc | with_reducible refine Ext.set ?_ (by first | (simp; done) | (simp; omega)) _ | with_reducible refine Ext.next ?_ (by with_reducible assumption))))) (HP3.out.ri.ext (by repeat (first | with_reducible assumption | with_reducible exact Ext.refl _ | with_reducible apply Ext.drewN | with_reducible apply Ext.drew | with_reducible apply Ext.alloc | with_reducible refine Ext.set ?_ (by first | (simp; done) | (simp; omega)) _ | with_reducible refine Ext.next ?_ (by with_reducible assumption)))) (by omega) (by omega) (by omega) (HVS.out tx HDx.out)).mono ?_
  rintro e w11 ⟨G, kG, rfl, hoG, hw11⟩
  have HG := hid hoG
  have HX11 : Hid (Ext w10 w11) := hid (by repeat (first | with_reducible assumption | with_reducible exact Ext.refl _ | with_reducible apply Ext.drewN | with_reducible apply Ext.drew | with_reducible apply Ext.alloc | with_reducible refine Ext.set ?_ (by first | (simp; done) | (simp; omega)) _ | with_reducible refine Ext.next ?_ (by with_reducible assumption)))
  clear hoG hw11
  go_wp2_with fail
  refine (eqIntS _ _ _ _ _ vs _ (HG.out.ri.ext (by repeat (first | with_reducible assumption | with_reducible exact Ext.refl _ | with_reducible apply Ext.drewN | with_reducible apply Ext.drew | with_reducible apply Ext.alloc | with_reducible refine Ext.set ?_ (by first | (simp; done) | (simp; omega)) _ | with_reducible refine Ext.next ?_ (by with_reducible assumption)))) (HB.out.ext (HX610.out.next (HX11.out.next (by repeat (first | with_reducible assumption | with_reducible exact Ext.refl _ | with_reducible apply Ext.drewN | with_reducible apply Ext.drew | with_reducible apply Ext.alloc | with_reducible refine Ext.set ?_ (by first | (simp; done) | (simp; omega)) _ | with_reducible refine Ext.next ?_ (by with_reducible assumption)))))) rfl (by omega)).mono ?_
  rintro e w12 ⟨rfl, hw12⟩
  have HX12 : Hid (Ext w10 w12) := hid (HX11.out.next (by repeat (first | with_reducible assumption | with_reducible exact Ext.refl _ | with_reducible apply Ext.drewN | with_reducible apply Ext.drew | with_reducible apply Ext.alloc | with_reducible refine Ext.set ?_ (by first | (simp; done) | (simp; omega)) _ | with_reducible refine Ext.next ?_ (by with_reducible assumption))))
  have HXG12 : Hid (Ext w11 w12) := hid (by repeat (first | with_reducible assumption | with_reducible exact Ext.refl _ | with_reducible apply Ext.drewN | with_reducible apply Ext.drew | with_reducible apply Ext.alloc | with_reducible refine Ext.set ?_ (by first | (simp; done) | (simp; omega)) _ | with_reducible refine Ext.next ?_ (by with_reducible assumption)))
  have d12 := keep HX12.out d10
  have c12 := keep HX710.out c7
  replace c12 := keep HX12.out c12
  clear hw12 d10 c6 c7
  go_wp2
  go_region_held3 (fun w' => w'.cell? ⟨w7.heap.size, 0, none⟩ = some (.slice Ax tx.length kx) ∧ w'.cell? ⟨w.heap.size, 0, none⟩ = some (.slice A0 ts0.length k0)) (refine ⟨?_, ?_⟩ <;> ((repeat (first | with_reducible assumption | with_reducible refine keep (Ext.alloc (Ext.refl _) _) ?_ | with_reducible refine keep (Ext.drew (Ext.refl _)) ?_ | with_reducible refine keep (Ext.drewN (Ext.refl _) _) ?_ | with_reducible refine keep (by with_reducible assumption) ?_)); done)) (first | (go_at_call 7; refine (toTab _ _ _ _ (h0.ext (HX6.out.next (HX610.out.next (HX12.out.next (by repeat (first | with_reducible assumption | with_reducible exact Ext.refl _ | with_reducible apply Ext.drewN | with_reducible apply Ext.drew | with_reducible apply Ext.alloc | with_reducible refine Ext.set ?_ (by first | (simp; done) | (simp; omega)) _ | with_reducible refine Ext.next ?_ (by with_reducible assumption))))))) ht).mono ?_; rintro e w13 ⟨A13, k13, ts13, rfl, hd13, ho13, hw13⟩; have HD13 := hid hd13; clear hd13) | (go_at_call 9; refine (eqTab _ _ _ _ _ _ tx ts13 _ (HOx.out.rt.ext (HX710.out.next (HX12.out.next (by repeat (first | with_reducible assumption | with_reducible exact Ext.refl _ | with_reducible apply Ext.drewN | with_reducible apply Ext.drew | with_reducible apply Ext.alloc | with_reducible refine Ext.set ?_ (by first | (simp; done) | (simp; omega)) _ | with_reducible refine Ext.next ?_ (by with_reducible assumption)))))) (ho13.rt.ext (by repeat (first | with_reducible assumption | with_reducible exact Ext.refl _ | with_reducible apply Ext.drewN | with_reducible apply Ext.drew | with_reducible apply Ext.alloc | with_reducible refine Ext.set ?_ (by first | (simp; done) | (simp; omega)) _ | with_reducible refine Ext.next ?_ (by with_reducible assumption)))) (HDx.out.trans HD13.out.symm) rfl rfl hsx).mono ?_; rintro e w14 ⟨rfl, hw14⟩))
  all_goals
    have HX14 : Hid (Ext w12 w14) := hid (by repeat (first | with_reducible assumption | with_reducible exact Ext.refl _ | with_reducible apply Ext.drewN | with_reducible apply Ext.drew | with_reducible apply Ext.alloc | with_reducible refine Ext.set ?_ (by first | (simp; done) | (simp; omega)) _ | with_reducible refine Ext.next ?_ (by with_reducible assumption)))
    have d14 := keep HX14.out d12
    have c14 := keep HX14.out c12
    clear d12 c12 hw13 hw14 ho13
    have HX1014 : Hid (Ext w10 w14) := hid (HX12.out.next HX14.out)
    have HW14 : Hid (Ext w w14) := hid (HX6.out.next (HX610.out.next HX1014.out))
    go_wp2_with fail
    refine (toIntS _ _ _ _ (h1.ext (HW14.out.next (by repeat (first | with_reducible assumption | with_reducible exact Ext.refl _ | with_reducible apply Ext.drewN | with_reducible apply Ext.drew | with_reducible apply Ext.alloc | with_reducible refine Ext.set ?_ (by first | (simp; done) | (simp; omega)) _ | with_reducible refine Ext.next ?_ (by with_reducible assumption))))) n1).mono ?_
    rintro e w15 ⟨A15, k15, rfl, ho15, hw15⟩
    go_wp2_with fail
    refine (eqIntS _ _ _ _ _ xs1 _ (HP1.out.ri.ext (HX810.out.next (HX1014.out.next (by repeat (first | with_reducible assumption | with_reducible exact Ext.refl _ | with_reducible apply Ext.drewN | with_reducible apply Ext.drew | with_reducible apply Ext.alloc | with_reducible refine Ext.set ?_ (by first | (simp; done) | (simp; omega)) _ | with_reducible refine Ext.next ?_ (by with_reducible assumption)))))) (ho15.ri.ext (by repeat (first | with_reducible assumption | with_reducible exact Ext.refl _ | with_reducible apply Ext.drewN | with_reducible apply Ext.drew | with_reducible apply Ext.alloc | with_reducible refine Ext.set ?_ (by first | (simp; done) | (simp; omega)) _ | with_reducible refine Ext.next ?_ (by with_reducible assumption)))) rfl (by omega)).mono ?_
    rintro e w16 ⟨rfl, hw16⟩
    have HX16' : Hid (Ext w14 w16) := hid (by repeat (first | with_reducible assumption | with_reducible exact Ext.refl _ | with_reducible apply Ext.drewN | with_reducible apply Ext.drew | with_reducible apply Ext.alloc | with_reducible refine Ext.set ?_ (by first | (simp; done) | (simp; omega)) _ | with_reducible refine Ext.next ?_ (by with_reducible assumption)))
    clear ho15 hw15 hw16
    go_wp2_with fail
    refine (toIntS _ _ _ _ (h2.ext (HW14.out.next (HX16'.out.next (by repeat (first | with_reducible assumption | with_reducible exact Ext.refl _ | with_reducible apply Ext.drewN | with_reducible apply Ext.drew | with_reducible apply Ext.alloc | with_reducible refine Ext.set ?_ (by first | (simp; done) | (simp; omega)) _ | with_reducible refine Ext.next ?_ (by with_reducible assumption)))))) n2).mono ?_
    rintro e w17 ⟨A17, k17, rfl, ho17, hw17⟩
    go_wp2_with fail
    refine (eqIntS _ _ _ _ _ xs2 _ (HP2.out.ri.ext (HX910.out.next (HX1014.out.next (HX16'.out.next (by repeat (first | with_reducible assumption | with_reducible exact Ext.refl _ | with_reducible apply Ext.drewN | with_reducible apply Ext.drew | with_reducible apply Ext.alloc | with_reducible refine Ext.set ?_ (by first | (simp; done) | (simp; omega)) _ | with_reducible refine Ext.next ?_ (by with_reducible assumption))))))) (ho17.ri.ext (by repeat (first | with_reducible assumption | with_reducible exact Ext.refl _ | with_reducible apply Ext.drewN | with_reducible apply Ext.drew | with_reducible apply Ext.alloc | with_reducible refine Ext.set ?_ (by first | (simp; done) | (simp; omega)) _ | with_reducible refine Ext.next ?_ (by with_reducible assumption)))) rfl (by omega)).mono ?_
    rintro e w18 ⟨rfl, hw18⟩
    have HX18 : Hid (Ext w14 w18) := hid (HX16'.out.next (by repeat (first | with_reducible assumption | with_reducible exact Ext.refl _ | with_reducible apply Ext.drewN | with_reducible apply Ext.drew | with_reducible apply Ext.alloc | with_reducible refine Ext.set ?_ (by first | (simp; done) | (simp; omega)) _ | with_reducible refine Ext.next ?_ (by with_reducible assumption))))
    clear ho17 hw17 hw18
    go_wp2_with fail
    refine (toIntS _ _ _ _ (h3.ext (HW14.out.next (HX18.out.next (by repeat (first | with_reducible assumption | with_reducible exact Ext.refl _ | with_reducible apply Ext.drewN | with_reducible apply Ext.drew | with_reducible apply Ext.alloc | with_reducible refine Ext.set ?_ (by first | (simp; done) | (simp; omega)) _ | with_reducible refine Ext.next ?_ (by with_reducible assumption)))))) n3).mono ?_
    rintro e w19 ⟨A19, k19, rfl, ho19, hw19⟩
    go_wp2_with fail
    refine (eqIntS _ _ _ _ _ xs3 _ (HP3.out.ri.ext (HX1014.out.next (HX18.out.next (by repeat (first | with_reducible assumption | with_reducible exact Ext.refl _ | with_reducible apply Ext.drewN | with_reducible apply Ext.drew | with_reducible apply Ext.alloc | with_reducible refine Ext.set ?_ (by first | (simp; done) | (simp; omega)) _ | with_reducible refine Ext.next ?_ (by with_reducible assumption)))))) (ho19.ri.ext (by repeat (first | with_reducible assumption | with_reducible exact Ext.refl _ | with_reducible apply Ext.drewN | with_reducible apply Ext.drew | with_reducible apply Ext.alloc | with_reducible refine Ext.set ?_ (by first | (simp; done) | (simp; omega)) _ | with_reducible refine Ext.next ?_ (by with_reducible assumption)))) rfl (by omega)).mono ?_
    rintro e w20 ⟨rfl, hw20⟩
    have HX20 : Hid (Ext w14 w20) := hid (HX18.out.next (by repeat (first | with_reducible assumption | with_reducible exact Ext.refl _ | with_reducible apply Ext.drewN | with_reducible apply Ext.drew | with_reducible apply Ext.alloc | with_reducible refine Ext.set ?_ (by first | (simp; done) | (simp; omega)) _ | with_reducible refine Ext.next ?_ (by with_reducible assumption))))
    have HX1020 : Hid (Ext w10 w20) := hid (HX1014.out.next HX20.out)
    have d20 := keep HX20.out d14
    have c20 := keep HX20.out c14
    have z20 := World.block_lt_of_cell? _ _ d20
    simp only at z20
    have zc20 := World.block_lt_of_cell? _ _ c20
    simp only at zc20
    have y7 := HX7.out.size
    have y20 := HX1020.out.size
    clear ho19 hw19 hw20 d14 c14 HX16' HX18
    have HFx := hid fun b (hb : footT Ax tx b) => HOx.out.foot_ hb
    have HF1 := hid fun b (hb : atB P1 b) => own_atB HP1.out hb
    have HF2 := hid fun b (hb : atB P2 b) => own_atB HP2.out hb
    have HF3 := hid fun b (hb : atB P3 b) => own_atB HP3.out hb
    have HFG := hid fun b (hb : atB G b) => own_atB HG.out hb
    go_wp2_with fail
    refine (markTab _ _ _ tx _ _ (HOx.out.ext (HX710.out.next (HX1020.out.next (by repeat (first | with_reducible assumption | with_reducible exact Ext.refl _ | with_reducible apply Ext.drewN | with_reducible apply Ext.drew | with_reducible apply Ext.alloc | with_reducible refine Ext.set ?_ (by first | (simp; done) | (simp; omega)) _ | with_reducible refine Ext.next ?_ (by with_reducible assumption)))))) (by omega) (by omega)).mono ?_
    rintro e w21 ⟨rfl, hu21⟩
    have U21 : Hid (Upd (fun b => w6.heap.size ≤ b ∧ b < w7.heap.size) w20 w21) := hid ((Upd.of_ext (by repeat (first | with_reducible assumption | with_reducible exact Ext.refl _ | with_reducible apply Ext.drewN | with_reducible apply Ext.drew | with_reducible apply Ext.alloc | with_reducible refine Ext.set ?_ (by first | (simp; done) | (simp; omega)) _ | with_reducible refine Ext.next ?_ (by with_reducible assumption)))).next (hu21.mono fun b _ hb => HFx.out b hb))
    clear hu21
    have P1' := OI.upq (HP1.out.ext (HX810.out.next HX1020.out)) U21.out (fun b hb hb' => by have := HF1.out b hb; simp only [heap_alloc_size] at this; omega)
    go_wp2_with fail
    refine (markIntS _ _ _ _ _ _ P1' (by omega) (by omega)).mono ?_
    rintro e w22 ⟨rfl, _, hu22⟩
    have U22 : Hid (Upd (fun b => w6.heap.size ≤ b ∧ b < w8.heap.size) w20 w22) := hid ((U21.out.mono fun b _ hb => by omega).next (hu22.mono fun b _ hb => by have := HF1.out b hb; simp only [heap_alloc_size] at this; omega))
    clear hu22
    have P2' := OI.upq (HP2.out.ext (HX910.out.next HX1020.out)) U22.out (fun b hb hb' => by have := HF2.out b hb; omega)
    go_wp2_with fail
    refine (markIntS _ _ _ _ _ _ P2' (by omega) (by omega)).mono ?_
    rintro e w23 ⟨rfl, _, hu23⟩
    have U23 : Hid (Upd (fun b => w6.heap.size ≤ b ∧ b < w9.heap.size) w20 w23) := hid ((U22.out.mono fun b _ hb => by omega).next (hu23.mono fun b _ hb => by have := HF2.out b hb; omega))
    clear hu23
    have P3' := OI.upq (HP3.out.ext HX1020.out) U23.out (fun b hb hb' => by have := HF3.out b hb; omega)
    go_wp2_with fail
    refine (markIntS _ _ _ _ _ _ P3' (by omega) (by omega)).mono ?_
    rintro e w24 ⟨rfl, _, hu24⟩
    have U24 : Hid (Upd (fun b => w6.heap.size ≤ b ∧ b < w10.heap.size) w20 w24) := hid ((U23.out.mono fun b _ hb => by omega).next (hu24.mono fun b _ hb => by have := HF3.out b hb; omega))
    clear hu24 P1' P2' P3' U21 U22 U23
    have HB24 : Hid (RI 3 w24 B vs) := hid (RI.upd_lt HB.out (HX610.out.next HX1020.out) U24.out fun b hb hb' => by omega)
    have HG24 : Hid (OI 3 w24 w10.heap.size G kG vs) := hid (OI.upq (HG.out.ext (HXG12.out.next (HX14.out.next HX20.out))) U24.out fun b hb hb' => by have := HFG.out b hb; omega)
    have c24 : w24.cell? ⟨w.heap.size, 0, none⟩ = some (.slice A0 ts0.length k0) := (U24.out.cell (p := ⟨w.heap.size, 0, none⟩) zc20 (fun hb => by simp only at hb; omega)).trans c20
    have HW24 : Hid (Ext w w24) := hid (((Upd.of_ext (HW14.out.next HX20.out)).next U24.out).ext fun b hb => by have := HX6.out.size; omega)
    have hbk : decide ((1 : Int) + (totT tx : Int) + (tx.length : Int) + (xs1.length : Int) + (xs2.length : Int) + (xs3.length : Int) < 0) = false := by rw [decide_eq_false_iff_not]; omega
    have y24 := U24.out.size
    clear d20 c20
    go_wp2_with fail
    refine (eqIntS _ _ _ _ _ vs _ (HG24.out.ri.ext (by repeat (first | with_reducible assumption | with_reducible exact Ext.refl _ | with_reducible apply Ext.drewN | with_reducible apply Ext.drew | with_reducible apply Ext.alloc | with_reducible refine Ext.set ?_ (by first | (simp; done) | (simp; omega)) _ | with_reducible refine Ext.next ?_ (by with_reducible assumption)))) (HB24.out.ext (by repeat (first | with_reducible assumption | with_reducible exact Ext.refl _ | with_reducible apply Ext.drewN | with_reducible apply Ext.drew | with_reducible apply Ext.alloc | with_reducible refine Ext.set ?_ (by first | (simp; done) | (simp; omega)) _ | with_reducible refine Ext.next ?_ (by with_reducible assumption)))) rfl (by omega)).mono ?_
    rintro e w25 ⟨rfl, hw25⟩
    have HX25 : Hid (Ext w24 w25) := hid (by repeat (first | with_reducible assumption | with_reducible exact Ext.refl _ | with_reducible apply Ext.drewN | with_reducible apply Ext.drew | with_reducible apply Ext.alloc | with_reducible refine Ext.set ?_ (by first | (simp; done) | (simp; omega)) _ | with_reducible refine Ext.next ?_ (by with_reducible assumption)))
    clear hw25
    go_wp2_with fail
    refine (markIntS _ _ _ _ _ _ (HG24.out.ext (HX25.out.next (by repeat (first | with_reducible assumption | with_reducible exact Ext.refl _ | with_reducible apply Ext.drewN | with_reducible apply Ext.drew | with_reducible apply Ext.alloc | with_reducible refine Ext.set ?_ (by first | (simp; done) | (simp; omega)) _ | with_reducible refine Ext.next ?_ (by with_reducible assumption))))) (by omega) (by omega)).mono ?_
    rintro e w26 ⟨rfl, ho26, hu26⟩
    have HU26 : Hid (Upd (atB G) w25 w26) := hid ((Upd.of_ext (by repeat (first | with_reducible assumption | with_reducible exact Ext.refl _ | with_reducible apply Ext.drewN | with_reducible apply Ext.drew | with_reducible apply Ext.alloc | with_reducible refine Ext.set ?_ (by first | (simp; done) | (simp; omega)) _ | with_reducible refine Ext.next ?_ (by with_reducible assumption)))).next hu26)
    have HR26 := hid ho26.ri
    have HB26 : Hid (RI 3 w26 B vs) := hid (RI.upd_lt HB.out (w := w20) (HX610.out.next HX1020.out) ((U24.out.mono (S' := fun b => w6.heap.size ≤ b) fun b _ hb => hb.1).next ((Upd.of_ext HX25.out).next (HU26.out.mono fun b _ hb => by have := HFG.out b hb; omega))) fun b hb hb' => by omega)
    have c26 : w26.cell? ⟨w.heap.size, 0, none⟩ = some (.slice A0 ts0.length k0) := (HU26.out.cell (p := ⟨w.heap.size, 0, none⟩) (lt_ext HX25.out (Nat.lt_of_lt_of_le zc20 y24)) (fun hb => by have := HFG.out _ hb; simp only at this; omega)).trans (keep HX25.out c24)
    have HW26 : Hid (Ext w w26) := hid (((Upd.of_ext (HW24.out.next HX25.out)).next HU26.out).ext fun b hb => by have := HFG.out b hb; have := HX6.out.size; omega)
    have hbg : decide ((1 : Int) + (vs.length : Int) < 0) = false := by rw [decide_eq_false_iff_not]; omega
    have hbn : ((1 : Int) + (vs.length : Int) != 1 + vs.length) = false := by simp
    have zc26 := World.block_lt_of_cell? _ _ c26
    simp only at zc26
    clear ho26 hu26 c24
    go_wp2_with fail
    refine (heldIntS _ _ _ _ _ (HR26.out.ext (by repeat (first | with_reducible assumption | with_reducible exact Ext.refl _ | with_reducible apply Ext.drewN | with_reducible apply Ext.drew | with_reducible apply Ext.alloc | with_reducible refine Ext.set ?_ (by first | (simp; done) | (simp; omega)) _ | with_reducible refine Ext.next ?_ (by with_reducible assumption)))) (by omega) (by omega)).mono ?_
    rintro e w' ⟨rfl, rfl⟩
    go_wp2_with fail
    refine (toTab _ _ _ _ (h0.ext (HW26.out.next (by repeat (first | with_reducible assumption | with_reducible exact Ext.refl _ | with_reducible apply Ext.drewN | with_reducible apply Ext.drew | with_reducible apply Ext.alloc | with_reducible refine Ext.set ?_ (by first | (simp; done) | (simp; omega)) _ | with_reducible refine Ext.next ?_ (by with_reducible assumption))))) ht).mono ?_
    rintro e w27 ⟨A27, k27, ts27, rfl, hd27, ho27, hw27⟩
    have HD27 := hid hd27
    have hs27 := SzT.of_dat hd27 ht
    have HO27 := hid ho27.rt
    clear hd27 ho27
    go_wp2_with fail
    refine (toIntS _ _ _ _ (h1.ext (HW26.out.next (by repeat (first | with_reducible assumption | with_reducible exact Ext.refl _ | with_reducible apply Ext.drewN | with_reducible apply Ext.drew | with_reducible apply Ext.alloc | with_reducible refine Ext.set ?_ (by first | (simp; done) | (simp; omega)) _ | with_reducible refine Ext.next ?_ (by with_reducible assumption))))) n1).mono ?_
    rintro e w28 ⟨A28, k28, rfl, ho28, hw28⟩
    go_wp2_with fail
    refine (toIntS _ _ _ _ (h2.ext (HW26.out.next (by repeat (first | with_reducible assumption | with_reducible exact Ext.refl _ | with_reducible apply Ext.drewN | with_reducible apply Ext.drew | with_reducible apply Ext.alloc | with_reducible refine Ext.set ?_ (by first | (simp; done) | (simp; omega)) _ | with_reducible refine Ext.next ?_ (by with_reducible assumption))))) n2).mono ?_
    rintro e w29 ⟨A29, k29, rfl, ho29, hw29⟩
    go_wp2_with fail
    refine (toIntS _ _ _ _ (h3.ext (HW26.out.next (by repeat (first | with_reducible assumption | with_reducible exact Ext.refl _ | with_reducible apply Ext.drewN | with_reducible apply Ext.drew | with_reducible apply Ext.alloc | with_reducible refine Ext.set ?_ (by first | (simp; done) | (simp; omega)) _ | with_reducible refine Ext.next ?_ (by with_reducible assumption))))) n3).mono ?_
    rintro e w30 ⟨A30, k30, rfl, ho30, hw30⟩
    go_wp2_with fail
    refine (implTabVals_v _ _ _ _ _ _ _ _ ts27 xs1 xs2 xs3 _ (HO27.out.ext (by repeat (first | with_reducible assumption | with_reducible exact Ext.refl _ | with_reducible apply Ext.drewN | with_reducible apply Ext.drew | with_reducible apply Ext.alloc | with_reducible refine Ext.set ?_ (by first | (simp; done) | (simp; omega)) _ | with_reducible refine Ext.next ?_ (by with_reducible assumption)))) hs27 (ho28.ri.ext (by repeat (first | with_reducible assumption | with_reducible exact Ext.refl _ | with_reducible apply Ext.drewN | with_reducible apply Ext.drew | with_reducible apply Ext.alloc | with_reducible refine Ext.set ?_ (by first | (simp; done) | (simp; omega)) _ | with_reducible refine Ext.next ?_ (by with_reducible assumption)))) (ho29.ri.ext (by repeat (first | with_reducible assumption | with_reducible exact Ext.refl _ | with_reducible apply Ext.drewN | with_reducible apply Ext.drew | with_reducible apply Ext.alloc | with_reducible refine Ext.set ?_ (by first | (simp; done) | (simp; omega)) _ | with_reducible refine Ext.next ?_ (by with_reducible assumption)))) (ho30.ri.ext (by repeat (first | with_reducible assumption | with_reducible exact Ext.refl _ | with_reducible apply Ext.drewN | with_reducible apply Ext.drew | with_reducible apply Ext.alloc | with_reducible refine Ext.set ?_ (by first | (simp; done) | (simp; omega)) _ | with_reducible refine Ext.next ?_ (by with_reducible assumption)))) (by omega) (by omega) (by omega) (HVS.out ts27 HD27.out)).mono ?_
    rintro e w31 ⟨K, kK, rfl, hoK, hw31⟩
    have HK := hid hoK.ri
    have HX31 : Hid (Ext w26 w31) := hid (by repeat (first | with_reducible assumption | with_reducible exact Ext.refl _ | with_reducible apply Ext.drewN | with_reducible apply Ext.drew | with_reducible apply Ext.alloc | with_reducible refine Ext.set ?_ (by first | (simp; done) | (simp; omega)) _ | with_reducible refine Ext.next ?_ (by with_reducible assumption)))
    clear ho28 ho29 ho30 hoK hw27 hw28 hw29 hw30 hw31 HO27
    go_wp2_with fail
    refine (eqIntS _ _ _ _ _ vs _ (HK.out.ext (by repeat (first | with_reducible assumption | with_reducible exact Ext.refl _ | with_reducible apply Ext.drewN | with_reducible apply Ext.drew | with_reducible apply Ext.alloc | with_reducible refine Ext.set ?_ (by first | (simp; done) | (simp; omega)) _ | with_reducible refine Ext.next ?_ (by with_reducible assumption)))) (HB26.out.ext (HX31.out.next (by repeat (first | with_reducible assumption | with_reducible exact Ext.refl _ | with_reducible apply Ext.drewN | with_reducible apply Ext.drew | with_reducible apply Ext.alloc | with_reducible refine Ext.set ?_ (by first | (simp; done) | (simp; omega)) _ | with_reducible refine Ext.next ?_ (by with_reducible assumption))))) rfl (by omega)).mono ?_
    rintro e w32 ⟨rfl, hw32⟩
    have HX32 : Hid (Ext w26 w32) := hid (HX31.out.next (by repeat (first | with_reducible assumption | with_reducible exact Ext.refl _ | with_reducible apply Ext.drewN | with_reducible apply Ext.drew | with_reducible apply Ext.alloc | with_reducible refine Ext.set ?_ (by first | (simp; done) | (simp; omega)) _ | with_reducible refine Ext.next ?_ (by with_reducible assumption))))
    clear hw32
    go_wp2_with fail
    refine (heldIntS _ _ _ _ _ (HR26.out.ext (HX32.out.next (by repeat (first | with_reducible assumption | with_reducible exact Ext.refl _ | with_reducible apply Ext.drewN | with_reducible apply Ext.drew | with_reducible apply Ext.alloc | with_reducible refine Ext.set ?_ (by first | (simp; done) | (simp; omega)) _ | with_reducible refine Ext.next ?_ (by with_reducible assumption))))) (by omega) (by omega)).mono ?_
    rintro e w' ⟨rfl, rfl⟩
    go_wp2
    go_ret
    exact ⟨rfl, HW26.out.next (HX32.out.next (by repeat (first | with_reducible assumption | with_reducible exact Ext.refl _ | with_reducible apply Ext.drewN | with_reducible apply Ext.drew | with_reducible apply Ext.alloc | with_reducible refine Ext.set ?_ (by first | (simp; done) | (simp; omega)) _ | with_reducible refine Ext.next ?_ (by with_reducible assumption))))⟩

set_option maxRecDepth 100000 in
theorem lifted (os : Os) (started : os.Started) (H : Type) (enc : TypeId × Value → H) :
    ReturnsInHanded {} Try.checked os 4 .any (Rows.fnExactTabValsSpec.pre6 enc Try.prog Try.f4 Rows.fnExactTabValsRow.domain false) (Rows.fnExactTabValsSpec.post enc Try.prog Try.f4 false true false false) := by
  refine returnsInHanded_of_change (C := Try.checked) ownKnob_ started (by kernel_rfl) Try.func4
    (ChangeSpec.witness6 (enc := enc) (C := Try.checked) false ⟨#[], #[.agg #[.slice none 0 0], .slice none 0 0, .slice none 0 0, .slice none 0 0], []⟩ 8 (by kernel_rfl) (by kernel_rfl) (by kernel_rfl) (by kernel_rfl)) ?_
  intro W base args ds gs before hval0 hW hcnd _
  have hval : ∀ (j : Nat) t v, Try.f4.params[j]? = some t → args[j]? = some v → Value.okWide Try.prog W .any base t v := hval0
  have hW' := hW
  obtain ⟨p, q, hA0, hV, rfl, hfz, hnd⟩ := hW
  have hA : DataW.TrodAll enc Try.prog W 0 (fun _ => true) true Try.f4.params.toList args.toList ds p := hA0
  rw [Try.params4] at hA hval
  obtain ⟨v0, vs0, d0, ds0, p0, q0, hargs, rfl, rfl, g0, r0⟩ := trodAll_cons hA
  obtain ⟨v1, vs1, d1, ds1, p1, q1, rfl, rfl, rfl, g1, r1⟩ := trodAll_cons r0
  obtain ⟨v2, vs2, d2, ds2, p2, q2, rfl, rfl, rfl, g2, r2⟩ := trodAll_cons r1
  obtain ⟨v3, vs3, d3, ds3, p3, q3, rfl, rfl, rfl, g3, r3⟩ := trodAll_cons r2
  obtain ⟨rfl, rfl, rfl⟩ := trodAll_nil r3
  obtain rfl : args = #[v0, v1, v2, v3] := by cases args; simp_all
  obtain ⟨rfl, rfl⟩ := trodVars_none hV
  have lt0 : ∀ x ∈ p0, x.block < W.heap.size := by obtain ⟨m, hm⟩ := g0; exact DataW.trod_lt m _ _ _ hm
  obtain ⟨A0, k0, ts0, e0, h0, s0⟩ := read_tab (hval 0 24 v0 rfl rfl) g0
  subst e0
  have lt1 : ∀ x ∈ p1, x.block < W.heap.size := by obtain ⟨m, hm⟩ := g1; exact DataW.trod_lt m _ _ _ hm
  obtain ⟨A1, k1, xs1, e1, h1, s1⟩ := read_ints (hval 1 33 v1 rfl rfl) g1
  subst e1
  have lt2 : ∀ x ∈ p2, x.block < W.heap.size := by obtain ⟨m, hm⟩ := g2; exact DataW.trod_lt m _ _ _ hm
  obtain ⟨A2, k2, xs2, e2, h2, s2⟩ := read_ints (hval 2 33 v2 rfl rfl) g2
  subst e2
  have lt3 : ∀ x ∈ p3, x.block < W.heap.size := by obtain ⟨m, hm⟩ := g3; exact DataW.trod_lt m _ _ _ hm
  obtain ⟨A3, k3, xs3, e3, h3, s3⟩ := read_ints (hval 3 33 v3 rfl rfl) g3
  subst e3
  clear hA0 hval0
  refine (walk A0 k0 ts0 A1 k1 xs1 A2 k2 xs2 A3 k3 xs3 W h0 s0 h1 s1 h2 s2 h3 s3).mono fun e W' ⟨he, bel⟩ => ?_
  subst he
  exact ⟨_, rfl, _, _, _, [], _, [], hW', trodAll_mk1 (shut_bool Try.underlying4 _), (trodAll_cons_mk (Below.trod laidOut_ (by kernel_rfl) (of_decide_eq_true (by kernel_rfl)) g0 bel.out lt0) (trodAll_cons_mk (Below.trod laidOut_ (by kernel_rfl) (of_decide_eq_true (by kernel_rfl)) g1 bel.out lt1) (trodAll_cons_mk (Below.trod laidOut_ (by kernel_rfl) (of_decide_eq_true (by kernel_rfl)) g2 bel.out lt2) (trodAll_cons_mk (Below.trod laidOut_ (by kernel_rfl) (of_decide_eq_true (by kernel_rfl)) g3 bel.out lt3) trodAll_mk0)))), rfl, bel.out.frame _, fun h => by cases h⟩
theorem cf0 : (fun (P : Program) (f : FuncId) (fn : Func) (s : ChangeSpec) (c : OpenClaim) => (c.wf (OpenSpec.ofChange s) : Bool)) Try.prog 4 Try.f4 Rows.fnExactTabValsSpec Rows.fnExactTabValsRow = true := by kernel_rfl
theorem cf3 : (fun (P : Program) (f : FuncId) (fn : Func) (s : ChangeSpec) (c : OpenClaim) => (fn.params.all (P.readableRec ·) : Bool)) Try.prog 4 Try.f4 Rows.fnExactTabValsSpec Rows.fnExactTabValsRow = true := by kernel_rfl
theorem cf4 : (fun (P : Program) (f : FuncId) (fn : Func) (s : ChangeSpec) (c : OpenClaim) => (namedTie P c.named s.vars : Bool)) Try.prog 4 Try.f4 Rows.fnExactTabValsSpec Rows.fnExactTabValsRow = true := by kernel_rfl
theorem cf5 : (fun (P : Program) (f : FuncId) (fn : Func) (s : ChangeSpec) (c : OpenClaim) => ((c.stops == []) : Bool)) Try.prog 4 Try.f4 Rows.fnExactTabValsSpec Rows.fnExactTabValsRow = true := by kernel_rfl
theorem cf7 : (fun (P : Program) (f : FuncId) (fn : Func) (s : ChangeSpec) (c : OpenClaim) => ((c.knobs == []) : Bool)) Try.prog 4 Try.f4 Rows.fnExactTabValsSpec Rows.fnExactTabValsRow = true := by kernel_rfl
theorem cf9 : (fun (P : Program) (f : FuncId) (fn : Func) (s : ChangeSpec) (c : OpenClaim) => ((c.inPlace == P.inPlace f) : Bool)) Try.prog 4 Try.f4 Rows.fnExactTabValsSpec Rows.fnExactTabValsRow = true := by kernel_rfl
theorem cf10 : (fun (P : Program) (f : FuncId) (fn : Func) (s : ChangeSpec) (c : OpenClaim) => ((c.unfollowed == P.unfollowed f) : Bool)) Try.prog 4 Try.f4 Rows.fnExactTabValsSpec Rows.fnExactTabValsRow = true := by kernel_rfl
theorem cf11 : (fun (P : Program) (f : FuncId) (fn : Func) (s : ChangeSpec) (c : OpenClaim) => ((c.recurses == P.recurses f) : Bool)) Try.prog 4 Try.f4 Rows.fnExactTabValsSpec Rows.fnExactTabValsRow = true := by kernel_rfl
theorem cf12 : (fun (P : Program) (f : FuncId) (fn : Func) (s : ChangeSpec) (c : OpenClaim) => ((c.named == P.varsNamed f) : Bool)) Try.prog 4 Try.f4 Rows.fnExactTabValsSpec Rows.fnExactTabValsRow = true := by kernel_rfl
theorem cf13 : (fun (P : Program) (f : FuncId) (fn : Func) (s : ChangeSpec) (c : OpenClaim) => ((c.maps == (fn.params.toList ++ s.plain.varTypes P).any (P.mapsRec ·)) : Bool)) Try.prog 4 Try.f4 Rows.fnExactTabValsSpec Rows.fnExactTabValsRow = true := by kernel_rfl
theorem cf14 : (fun (P : Program) (f : FuncId) (fn : Func) (s : ChangeSpec) (c : OpenClaim) => ((c.ifaces == (fn.params.toList ++ s.plain.varTypes P).any (P.ifacesRec ·)) : Bool)) Try.prog 4 Try.f4 Rows.fnExactTabValsSpec Rows.fnExactTabValsRow = true := by kernel_rfl
theorem cf15 : (fun (P : Program) (f : FuncId) (fn : Func) (s : ChangeSpec) (c : OpenClaim) => ((c.mapsOut == P.mapsAmong fn.resultTypes.toList) : Bool)) Try.prog 4 Try.f4 Rows.fnExactTabValsSpec Rows.fnExactTabValsRow = true := by kernel_rfl
theorem cf16 : (fun (P : Program) (f : FuncId) (fn : Func) (s : ChangeSpec) (c : OpenClaim) => ((c.loops == (fn.params.toList ++ s.plain.varTypes P).any (P.loopsFrom ·)) : Bool)) Try.prog 4 Try.f4 Rows.fnExactTabValsSpec Rows.fnExactTabValsRow = true := by kernel_rfl
theorem cf17 : (fun (P : Program) (f : FuncId) (fn : Func) (s : ChangeSpec) (c : OpenClaim) => ((c.wideKeys == (fn.params.toList ++ s.plain.varTypes P ++ fn.resultTypes.toList).any (P.wideKeysFrom ·)) : Bool)) Try.prog 4 Try.f4 Rows.fnExactTabValsSpec Rows.fnExactTabValsRow = true := by kernel_rfl
theorem cf18 : (fun (P : Program) (f : FuncId) (fn : Func) (s : ChangeSpec) (c : OpenClaim) => (s.vars.all (P.varReadable ·) : Bool)) Try.prog 4 Try.f4 Rows.fnExactTabValsSpec Rows.fnExactTabValsRow = true := by kernel_rfl
theorem cf19 : (fun (P : Program) (f : FuncId) (fn : Func) (s : ChangeSpec) (c : OpenClaim) => (fn.resultTypes.all (fun t => P.readableRec t && decide (t < P.types.size)) : Bool)) Try.prog 4 Try.f4 Rows.fnExactTabValsSpec Rows.fnExactTabValsRow = true := by kernel_rfl
theorem cf20 : (fun (P : Program) (f : FuncId) (fn : Func) (s : ChangeSpec) (c : OpenClaim) => ((c.ifacesOut == fn.resultTypes.toList.any (P.ifacesRec ·)) : Bool)) Try.prog 4 Try.f4 Rows.fnExactTabValsSpec Rows.fnExactTabValsRow = true := by kernel_rfl
theorem cf21 : (fun (P : Program) (f : FuncId) (fn : Func) (s : ChangeSpec) (c : OpenClaim) => ((c.loopsOut == fn.resultTypes.toList.any (P.loopsFrom ·)) : Bool)) Try.prog 4 Try.f4 Rows.fnExactTabValsSpec Rows.fnExactTabValsRow = true := by kernel_rfl
theorem cf23 : (fun (P : Program) (f : FuncId) (fn : Func) (s : ChangeSpec) (c : OpenClaim) => (c.shortTexts.isNone : Bool)) Try.prog 4 Try.f4 Rows.fnExactTabValsSpec Rows.fnExactTabValsRow = true := by kernel_rfl
theorem cf28 : (fun (P : Program) (f : FuncId) (fn : Func) (s : ChangeSpec) (c : OpenClaim) => ((c.kinds == (if c.domain.isEmpty then [] else fn.params.toList.map fun t => match P.underlying t with | some (.int k) => some k | _ => none)) : Bool)) Try.prog 4 Try.f4 Rows.fnExactTabValsSpec Rows.fnExactTabValsRow = true := by kernel_rfl
theorem cf29 : (fun (P : Program) (f : FuncId) (fn : Func) (s : ChangeSpec) (c : OpenClaim) => ((c.pinned == c.pinnedBy) : Bool)) Try.prog 4 Try.f4 Rows.fnExactTabValsSpec Rows.fnExactTabValsRow = true := by kernel_rfl
theorem cf30 : (fun (P : Program) (f : FuncId) (fn : Func) (s : ChangeSpec) (c : OpenClaim) => ((c.veiled == (fn.params.toList ++ s.plain.varTypes P ++ fn.resultTypes.toList).any (P.veiledRec ·)) : Bool)) Try.prog 4 Try.f4 Rows.fnExactTabValsSpec Rows.fnExactTabValsRow = true := by kernel_rfl
theorem cf31 : (fun (P : Program) (f : FuncId) (fn : Func) (s : ChangeSpec) (c : OpenClaim) => (c.veiledFits P fn.params.toList (fn.params.toList ++ s.plain.varTypes P ++ fn.resultTypes.toList) : Bool)) Try.prog 4 Try.f4 Rows.fnExactTabValsSpec Rows.fnExactTabValsRow = true := by kernel_rfl

set_option maxRecDepth 100000 in
theorem closed : joinedFacts Try.prog 4 Try.f4 Rows.fnExactTabValsSpec Rows.fnExactTabValsRow = true := by
  unfold joinedFacts
  exact (band (band (band (band (band (band (band (band (band (band (band (band (band (band (band (band (band (band (band (band (band (band (band (band (band (band (band (band (band (band (band cf0 pf1) pf2) cf3) cf4) cf5) pf6) cf7) pf8) cf9) cf10) cf11) cf12) cf13) cf14) cf15) cf16) cf17) cf18) cf19) cf20) cf21) pf22) cf23) pf24) pf25) pf26) pf27) cf28) cf29) cf30) cf31)
theorem inst : Try.f4.isInstance Try.prog Rows.fnExactTabValsRow.origin Rows.fnExactTabValsRow.targs := of_decide_eq_true (by kernel_rfl)
theorem wrap_ : Try.f4.isWrapper Try.prog Rows.fnExactTabValsRow.wrapper Rows.fnExactTabValsRow.mainSum := by
  unfold Func.isWrapper
  rw [if_neg (by decide +kernel)]
  exact ⟨rfl, rfl⟩

theorem over : Rows.fnExactTabValsRow.holds Try.pinned (OpenSpec.ofChange Rows.fnExactTabValsSpec) :=
  OpenClaim.holds_of_wide 4 Try.f4 rfl rfl rfl rfl rfl rfl rfl ⟨rfl, rfl, rfl, rfl, rfl⟩ rfl rfl rfl rfl rfl (by as_aux_lemma => kernel_rfl) Try.func4 closed inst wrap_
    (fun os started H enc _ => lifted os started H enc)

theorem proved : Rows.FnExactTabValsSaid := over
#print axioms proved
end Go.Proofs.Ytkdggfkigjpbfaa.fnExactTabVals
