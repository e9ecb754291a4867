/- The reference's draw of two sums, often with something in common. Conditions: fewer than 2^40 bytes drawn. -/
import Derived.Test.YtcgelcaepkakaaaPG
import Derived.Test.YtcgelcaepkakaaaDW
import Derived.Deep.RegionHeld3
namespace Go.Proofs.Ytcgelcaepkakaaa
open Go Go.RowKit
set_option linter.unusedVariables false
set_option linter.unusedSimpArgs false

def RetTwo (TM TI : TypeId) (w : World) (r : Nat) (A : Option Addr) (k m : Nat) (bs : List Int) (c' : Nat) (e : Ending) (w' : World) : Prop :=
  ∃ A1 k1 ms1 A2 k2 ms2 d, e = .returned (.tuple #[.agg #[.slice A1 (List.length ms1) k1], .agg #[.slice A2 (List.length ms2) k2]]) ∧ GPN 200 TM TI w' w.heap.size A1 k1 ms1 ∧ GPN 200 TM TI w' w.heap.size A2 k2 ms2 ∧ d ≤ c' ∧ Rd w' r A k m bs d ∧ Upd (fun b => b = r) w w'

set_option maxRecDepth 100000 in
set_option maxHeartbeats 4000000 in
theorem two21 (r : Nat) (A : Option Addr) (k m : Nat) (bs : List Int) (c : Nat) (n : Int) (w : World) (h : Rd w r A k m bs c) (hc : c + 1000 < 1099511627776) :
    Calls Try.prog 51 #[.pointer (some ⟨r, 0, none⟩), .int .i64 n] w (RetTwo 73 3 w r A k m bs (c + 300)) := by
  have hrs := h.size
  go_enter Try.func51, Try.ntmps51
  go_wp2_with fail
  refine (polyOr21 _ _ _ _ _ _ _ _ (h.ext (by repeat (first | with_reducible assumption | with_reducible exact Ext.refl _ | with_reducible apply Ext.drewN | with_reducible apply Ext.drew | with_reducible apply Ext.alloc | with_reducible refine Ext.set ?_ (by first | (simp; done) | (simp; omega)) _ | with_reducible refine Ext.next ?_ (by with_reducible assumption)))) (by omega)).mono ?_
  rintro e w1 ⟨A1, k1, ms1, d1, rfl, G1, hd1, R1, hU1⟩
  have V1 : Var w1 w.heap.size (.slice none 0 0) := ⟨(hU1.cell (p := ⟨w.heap.size, 0, none⟩) (by simp; omega) (by simp only; omega)).trans (by go_simp), (hU1.frozen (p := ⟨w.heap.size, 0, none⟩) (by simp; omega) (by simp only; omega)).trans (by go_simp)⟩
  have X1 : Var w1 (w.heap.size + 1) (.slice none 0 0) := ⟨(hU1.cell (p := ⟨w.heap.size + 1, 0, none⟩) (by simp) (by simp only; omega)).trans (by go_simp), (hU1.frozen (p := ⟨w.heap.size + 1, 0, none⟩) (by simp) (by simp only; omega)).trans (by go_simp)⟩
  have U1 : Upd (fun b => b = r) w w1 := (Upd.of_ext (by repeat (first | with_reducible assumption | with_reducible exact Ext.refl _ | with_reducible apply Ext.drewN | with_reducible apply Ext.drew | with_reducible apply Ext.alloc | with_reducible refine Ext.set ?_ (by first | (simp; done) | (simp; omega)) _ | with_reducible refine Ext.next ?_ (by with_reducible assumption)))).next hU1
  have G1' := G1.base (lo' := w.heap.size + 2) (by simp)
  have hx1 := X1.lt
  have hr1 := R1.size
  clear hU1 G1
  go_wp2_with fail
  refine (polyOr21 _ _ _ _ _ _ _ _ (R1.ext (by repeat (first | with_reducible assumption | with_reducible exact Ext.refl _ | with_reducible apply Ext.drewN | with_reducible apply Ext.drew | with_reducible apply Ext.alloc | with_reducible refine Ext.set ?_ (by first | (simp; done) | (simp; omega)) _ | with_reducible refine Ext.next ?_ (by with_reducible assumption)))) (by omega)).mono ?_
  rintro e w2 ⟨A2, k2, ms2, d2, rfl, G2, hd2, R2, hU2⟩
  have P2 : Var w2 w1.heap.size (.slice A1 ms1.length k1) := ⟨(hU2.cell (p := ⟨w1.heap.size, 0, none⟩) (by simp) (by simp only; omega)).trans (by go_simp), (hU2.frozen (p := ⟨w1.heap.size, 0, none⟩) (by simp) (by simp only; omega)).trans (by go_simp)⟩
  have U12 : Upd (fun b => b = r) w1 w2 := (Upd.of_ext (by repeat (first | with_reducible assumption | with_reducible exact Ext.refl _ | with_reducible apply Ext.drewN | with_reducible apply Ext.drew | with_reducible apply Ext.alloc | with_reducible refine Ext.set ?_ (by first | (simp; done) | (simp; omega)) _ | with_reducible refine Ext.next ?_ (by with_reducible assumption)))).next hU2
  have V2 := V1.upd U12 (fun hb => by have e : w.heap.size = r := hb; omega)
  have X2 := X1.upd U12 (fun hb => by have e : (w.heap.size + 1) = r := hb; omega)
  have G12 := G1'.upd U12 (fun b hb => by have e : b = r := hb; omega)
  have G2' := G2.base (lo' := w.heap.size + 2) (by simp; omega)
  have U2 := U1.next U12
  have hr2 := R2.size
  have hp2 := P2.lt
  have hx2 := X2.lt
  clear hU2 U12 V1 X1 G1' U1 R1 G2
  go_wp2_with fail
  refine (pick _ _ _ _ _ _ _ _ (R2.ext (by repeat (first | with_reducible assumption | with_reducible exact Ext.refl _ | with_reducible apply Ext.drewN | with_reducible apply Ext.drew | with_reducible apply Ext.alloc | with_reducible refine Ext.set ?_ (by first | (simp; done) | (simp; omega)) _ | with_reducible refine Ext.next ?_ (by with_reducible assumption)))) (by omega)).mono ?_
  rintro e w3 ⟨u, rfl, hu0, hu1, R3, hU3⟩
  have hu2 := hu1 (by omega)
  obtain ⟨q0, q1⟩ : Var w3 w2.heap.size (.slice A2 ms2.length k2) := ⟨(hU3.cell (p := ⟨w2.heap.size, 0, none⟩) (by simp) (by simp only; omega)).trans (by go_simp), (hU3.frozen (p := ⟨w2.heap.size, 0, none⟩) (by simp) (by simp only; omega)).trans (by go_simp)⟩
  have U23 : Upd (fun b => b = r) w2 w3 := (Upd.of_ext (by repeat (first | with_reducible assumption | with_reducible exact Ext.refl _ | with_reducible apply Ext.drewN | with_reducible apply Ext.drew | with_reducible apply Ext.alloc | with_reducible refine Ext.set ?_ (by first | (simp; done) | (simp; omega)) _ | with_reducible refine Ext.next ?_ (by with_reducible assumption)))).next hU3
  obtain ⟨v0, v1⟩ := V2.upd U23 (fun hb => by have e : w.heap.size = r := hb; omega)
  obtain ⟨x0, x1⟩ := X2.upd U23 (fun hb => by have e : (w.heap.size + 1) = r := hb; omega)
  obtain ⟨p0, p1⟩ := P2.upd U23 (fun hb => by have e : w1.heap.size = r := hb; omega)
  have HG1 := hid (G12.upd U23 (fun b hb => by have e : b = r := hb; omega))
  have HG2 := hid (G2'.upd U23 (fun b hb => by have e : b = r := hb; omega))
  have HU := hid (U2.next U23)
  have HR := hid R3
  have hql := World.block_lt_of_cell? _ _ q0
  have hr3 := R3.size
  simp only at hql
  have hpl : w1.heap.size < w3.heap.size := by omega
  have hvl : w.heap.size < w3.heap.size := by omega
  have hxl : w.heap.size + 1 < w3.heap.size := by omega
  clear hU3 U23 V2 X2 P2 G12 G2' U2 R2 R3 hu1
  have hcase : u = 0 ∨ u = 1 ∨ u = 2 ∨ 3 ≤ u := by omega
  rcases hcase with rfl | rfl | rfl | hu3
  · go_wp2
    go_region
    all_goals
      go_wp2
      have X := HU.out
      refine bodyPost_ret (by simp [results, Try.results51, go_sem, *]; try rfl) rfl ⟨A1, k1, ms1, A1, k1, ms1, d2 + 1, rfl, ?_, ?_, by omega, HR.out.upd (by repeat (first | with_reducible assumption | with_reducible exact Upd.refl _ _ | with_reducible apply Upd.drewN | with_reducible apply Upd.drew | with_reducible apply Upd.alloc | with_reducible refine Upd.set ?_ (by first | (left; simp; done) | (left; simp; omega) | (right; simp; done) | (right; simp; omega) | (right; omega)) _ | with_reducible refine Upd.next ?_ (Upd.of_ext (by with_reducible assumption)))), (by repeat (first | with_reducible assumption | with_reducible exact Upd.refl _ _ | with_reducible apply Upd.drewN | with_reducible apply Upd.drew | with_reducible apply Upd.alloc | with_reducible refine Upd.set ?_ (by first | (left; simp; done) | (left; simp; omega) | (right; simp; done) | (right; simp; omega) | (right; omega)) _ | with_reducible refine Upd.next ?_ (Upd.of_ext (by with_reducible assumption))))⟩
      · exact (HG1.out.upd (S := fun b => b < _) (by repeat (first | with_reducible assumption | with_reducible exact Upd.refl _ _ | with_reducible apply Upd.drewN | with_reducible apply Upd.drew | with_reducible apply Upd.alloc | with_reducible refine Upd.set ?_ (by first | (left; simp; done) | (left; simp; omega) | (right; simp; done) | (right; simp; omega) | (right; omega)) _ | with_reducible refine Upd.next ?_ (Upd.of_ext (by with_reducible assumption)))) (fun b hb => hb)).base (by omega)
      · exact (HG1.out.upd (S := fun b => b < _) (by repeat (first | with_reducible assumption | with_reducible exact Upd.refl _ _ | with_reducible apply Upd.drewN | with_reducible apply Upd.drew | with_reducible apply Upd.alloc | with_reducible refine Upd.set ?_ (by first | (left; simp; done) | (left; simp; omega) | (right; simp; done) | (right; simp; omega) | (right; omega)) _ | with_reducible refine Upd.next ?_ (Upd.of_ext (by with_reducible assumption)))) (fun b hb => hb)).base (by omega)
  · have HS := HG1.out.szM
    go_wp2
    go_region_held3 (fun w' => w'.cell? ⟨w1.heap.size, 0, none⟩ = some (.slice A1 ms1.length k1)) (first | ((repeat (first | with_reducible assumption | with_reducible refine keep (Ext.alloc (Ext.refl _) _) ?_ | with_reducible refine keep (Ext.drew (Ext.refl _)) ?_ | with_reducible refine keep (Ext.drewN (Ext.refl _) _) ?_ | with_reducible refine keep (by with_reducible assumption) ?_)); done) | (rw [World.cell?_setCell_far _ _ _ _ (by simp; omega)]; ((repeat (first | with_reducible assumption | with_reducible refine keep (Ext.alloc (Ext.refl _) _) ?_ | with_reducible refine keep (Ext.drew (Ext.refl _)) ?_ | with_reducible refine keep (Ext.drewN (Ext.refl _) _) ?_ | with_reducible refine keep (by with_reducible assumption) ?_)); done)))
      ((go_at_call 24; (refine (specPolScale _ _ ms1 65535 _ (HG1.out.rn.ext (by repeat (first | with_reducible assumption | with_reducible exact Ext.refl _ | with_reducible apply Ext.drewN | with_reducible apply Ext.drew | with_reducible apply Ext.alloc | with_reducible refine Ext.set ?_ (by first | (simp; done) | (simp; omega)) _ | with_reducible refine Ext.next ?_ (by with_reducible assumption)))) HS).mono ?_); (rintro e w5 ⟨A5, k5, ms5, rfl, hd5, ho5, hw5⟩); (obtain ⟨y0, y1⟩ := Var.ext (w' := w5) ⟨v0, v1⟩ (by repeat (first | with_reducible assumption | with_reducible exact Ext.refl _ | with_reducible apply Ext.drewN | with_reducible apply Ext.drew | with_reducible apply Ext.alloc | with_reducible refine Ext.set ?_ (by first | (simp; done) | (simp; omega)) _ | with_reducible refine Ext.next ?_ (by with_reducible assumption)))); (obtain ⟨z0, z1⟩ := Var.ext (w' := w5) ⟨x0, x1⟩ (by repeat (first | with_reducible assumption | with_reducible exact Ext.refl _ | with_reducible apply Ext.drewN | with_reducible apply Ext.drew | with_reducible apply Ext.alloc | with_reducible refine Ext.set ?_ (by first | (simp; done) | (simp; omega)) _ | with_reducible refine Ext.next ?_ (by with_reducible assumption)))); (have HG5 := hid (GPN.of_ok ho5 (by rw [hd5]; exact polOk_polScale _ _))); clear hd5 ho5))
    all_goals
      have hw35 : Ext w3 w5 := (by repeat (first | with_reducible assumption | with_reducible exact Ext.refl _ | with_reducible apply Ext.drewN | with_reducible apply Ext.drew | with_reducible apply Ext.alloc | with_reducible refine Ext.set ?_ (by first | (simp; done) | (simp; omega)) _ | with_reducible refine Ext.next ?_ (by with_reducible assumption)))
      have hs5 := hw35.size
      go_wp2
      have X := HU.out
      refine bodyPost_ret (by simp [results, Try.results51, go_sem, *]; try rfl) rfl ⟨A1, k1, ms1, A5, k5, ms5, d2 + 1, rfl, ?_, ?_, by omega, HR.out.upd (by repeat (first | with_reducible assumption | with_reducible exact Upd.refl _ _ | with_reducible apply Upd.drewN | with_reducible apply Upd.drew | with_reducible apply Upd.alloc | with_reducible refine Upd.set ?_ (by first | (left; simp; done) | (left; simp; omega) | (right; simp; done) | (right; simp; omega) | (right; omega)) _ | with_reducible refine Upd.next ?_ (Upd.of_ext (by with_reducible assumption)))), (by repeat (first | with_reducible assumption | with_reducible exact Upd.refl _ _ | with_reducible apply Upd.drewN | with_reducible apply Upd.drew | with_reducible apply Upd.alloc | with_reducible refine Upd.set ?_ (by first | (left; simp; done) | (left; simp; omega) | (right; simp; done) | (right; simp; omega) | (right; omega)) _ | with_reducible refine Upd.next ?_ (Upd.of_ext (by with_reducible assumption))))⟩
      · exact (HG1.out.upd (S := fun b => b < _) (by repeat (first | with_reducible assumption | with_reducible exact Upd.refl _ _ | with_reducible apply Upd.drewN | with_reducible apply Upd.drew | with_reducible apply Upd.alloc | with_reducible refine Upd.set ?_ (by first | (left; simp; done) | (left; simp; omega) | (right; simp; done) | (right; simp; omega) | (right; omega)) _ | with_reducible refine Upd.next ?_ (Upd.of_ext (by with_reducible assumption)))) (fun b hb => hb)).base (by omega)
      · exact ((HG5.out.upd (S := fun b => b < _) (by repeat (first | with_reducible assumption | with_reducible exact Upd.refl _ _ | with_reducible apply Upd.drewN | with_reducible apply Upd.drew | with_reducible apply Upd.alloc | with_reducible refine Upd.set ?_ (by first | (left; simp; done) | (left; simp; omega) | (right; simp; done) | (right; simp; omega) | (right; omega)) _ | with_reducible refine Upd.next ?_ (Upd.of_ext (by with_reducible assumption)))) (fun b hb => hb)).base (by first | omega | (simp; omega))).more (by have := HG5.out.sz.1; omega)
  · have HS := HG1.out.szM
    go_wp2_with fail
    refine (specPolScale _ _ ms1 65535 _ (HG1.out.rn.ext (by repeat (first | with_reducible assumption | with_reducible exact Ext.refl _ | with_reducible apply Ext.drewN | with_reducible apply Ext.drew | with_reducible apply Ext.alloc | with_reducible refine Ext.set ?_ (by first | (simp; done) | (simp; omega)) _ | with_reducible refine Ext.next ?_ (by with_reducible assumption)))) HS).mono ?_
    rintro e w5 ⟨A5, k5, ms5, rfl, hd5, ho5, hw5⟩
    have HG5 := hid (GPN.of_ok ho5 (by rw [hd5]; exact polOk_polScale _ _))
    clear hd5 ho5
    have hs5 := hw5.size
    go_wp2_with fail
    refine (word _ _ _ _ _ _ _ (HR.out.ext (by repeat (first | with_reducible assumption | with_reducible exact Ext.refl _ | with_reducible apply Ext.drewN | with_reducible apply Ext.drew | with_reducible apply Ext.alloc | with_reducible refine Ext.set ?_ (by first | (simp; done) | (simp; omega)) _ | with_reducible refine Ext.next ?_ (by with_reducible assumption)))) (by omega)).mono ?_
    rintro e w6 ⟨v, d6, rfl, ⟨hv0, hv1⟩, hd6, R6, hU6⟩
    have hs6 := hU6.size
    have U36 : Upd (fun b => b = r) w3 w6 := (Upd.of_ext (by repeat (first | with_reducible assumption | with_reducible exact Ext.refl _ | with_reducible apply Ext.drewN | with_reducible apply Ext.drew | with_reducible apply Ext.alloc | with_reducible refine Ext.set ?_ (by first | (simp; done) | (simp; omega)) _ | with_reducible refine Ext.next ?_ (by with_reducible assumption)))).next hU6
    have HG56 := hid (HG5.out.upd hU6 (fun b hb => by have e : b = r := hb; omega))
    have hr6 := R6.size
    have HR6 := hid R6
    have HU36 := hid U36
    clear U36 hU6 R6
    go_wp2_with fail
    refine (specPolConst _ _).mono ?_
    rintro e w7 ⟨A7, k7, ms7, rfl, hd7, ho7, hw7⟩
    have hs7 := hw7.size
    have hok7 : polOk (ms7.map Mn.dat) = true := by rw [hd7]; exact polOk_polConst _
    have HG7 := hid (GPN.of_ok ho7 hok7)
    clear hd7 ho7 hok7
    go_wp2_with fail
    refine (specPolAdd _ _ _ _ ms5 ms7 _ ((HG56.out.rn.ext hw7).ext (by repeat (first | with_reducible assumption | with_reducible exact Ext.refl _ | with_reducible apply Ext.drewN | with_reducible apply Ext.drew | with_reducible apply Ext.alloc | with_reducible refine Ext.set ?_ (by first | (simp; done) | (simp; omega)) _ | with_reducible refine Ext.next ?_ (by with_reducible assumption)))) (HG7.out.rn.ext (by repeat (first | with_reducible assumption | with_reducible exact Ext.refl _ | with_reducible apply Ext.drewN | with_reducible apply Ext.drew | with_reducible apply Ext.alloc | with_reducible refine Ext.set ?_ (by first | (simp; done) | (simp; omega)) _ | with_reducible refine Ext.next ?_ (by with_reducible assumption)))) HG56.out.szM HG7.out.szM).mono ?_
    rintro e w8 ⟨A8, k8, ms8, rfl, hd8, ho8, hw8⟩
    have HG8 := hid (GPN.of_ok ho8 (by rw [hd8]; exact polOk_polAdd _ _))
    have hw68 : Ext w6 w8 := (by repeat (first | with_reducible assumption | with_reducible exact Ext.refl _ | with_reducible apply Ext.drewN | with_reducible apply Ext.drew | with_reducible apply Ext.alloc | with_reducible refine Ext.set ?_ (by first | (simp; done) | (simp; omega)) _ | with_reducible refine Ext.next ?_ (by with_reducible assumption)))
    have hs8 := hw68.size
    have U38 : Upd (fun b => b = r) w3 w8 := HU36.out.next (.of_ext hw68)
    generalize (polAdd (ms5.map Mn.dat) (ms7.map Mn.dat)).2 = ok
    obtain ⟨a0, a1⟩ := Var.upd (w' := w8) ⟨v0, v1⟩ U38 (fun hb => by have e : w.heap.size = r := hb; omega)
    obtain ⟨b0, b1⟩ := Var.upd (w' := w8) ⟨x0, x1⟩ U38 (fun hb => by have e : (w.heap.size + 1) = r := hb; omega)
    obtain ⟨e0, e1⟩ := Var.upd (w' := w8) ⟨p0, p1⟩ U38 (fun hb => by have e : w1.heap.size = r := hb; omega)
    obtain ⟨f0, f1⟩ := Var.upd (w' := w8) ⟨q0, q1⟩ U38 (fun hb => by have e : w2.heap.size = r := hb; omega)
    have hv8 : w.heap.size < w8.heap.size := by omega
    have hx8 : w.heap.size + 1 < w8.heap.size := by omega
    have hp8 : w1.heap.size < w8.heap.size := by omega
    have hq8 : w2.heap.size < w8.heap.size := by omega
    have HU38 := hid U38
    have HU8 := hid (HU.out.next U38)
    have HR8 := hid (HR6.out.ext hw68)
    have HG18 := hid (HG1.out.upd U38 (fun b hb => by have e : b = r := hb; omega))
    have HG28 := hid (HG2.out.upd U38 (fun b hb => by have e : b = r := hb; omega))
    clear hd8 ho8 U38 v0 v1 x0 x1 p0 p1 q0 q1 hw5 hw7 hw8 hw68
    cases ok
    · go_wp2
      go_region
      all_goals
        go_wp2
        have X := HU8.out
        refine bodyPost_ret (by simp [results, Try.results51, go_sem, *]; try rfl) rfl ⟨A1, k1, ms1, A2, k2, ms2, d6, rfl, ?_, ?_, by omega, HR8.out.upd (by repeat (first | with_reducible assumption | with_reducible exact Upd.refl _ _ | with_reducible apply Upd.drewN | with_reducible apply Upd.drew | with_reducible apply Upd.alloc | with_reducible refine Upd.set ?_ (by first | (left; simp; done) | (left; simp; omega) | (right; simp; done) | (right; simp; omega) | (right; omega)) _ | with_reducible refine Upd.next ?_ (Upd.of_ext (by with_reducible assumption)))), (by repeat (first | with_reducible assumption | with_reducible exact Upd.refl _ _ | with_reducible apply Upd.drewN | with_reducible apply Upd.drew | with_reducible apply Upd.alloc | with_reducible refine Upd.set ?_ (by first | (left; simp; done) | (left; simp; omega) | (right; simp; done) | (right; simp; omega) | (right; omega)) _ | with_reducible refine Upd.next ?_ (Upd.of_ext (by with_reducible assumption))))⟩
        · exact (HG18.out.upd (S := fun b => b < _) (by repeat (first | with_reducible assumption | with_reducible exact Upd.refl _ _ | with_reducible apply Upd.drewN | with_reducible apply Upd.drew | with_reducible apply Upd.alloc | with_reducible refine Upd.set ?_ (by first | (left; simp; done) | (left; simp; omega) | (right; simp; done) | (right; simp; omega) | (right; omega)) _ | with_reducible refine Upd.next ?_ (Upd.of_ext (by with_reducible assumption)))) (fun b hb => hb)).base (by omega)
        · exact (HG28.out.upd (S := fun b => b < _) (by repeat (first | with_reducible assumption | with_reducible exact Upd.refl _ _ | with_reducible apply Upd.drewN | with_reducible apply Upd.drew | with_reducible apply Upd.alloc | with_reducible refine Upd.set ?_ (by first | (left; simp; done) | (left; simp; omega) | (right; simp; done) | (right; simp; omega) | (right; omega)) _ | with_reducible refine Upd.next ?_ (Upd.of_ext (by with_reducible assumption)))) (fun b hb => hb)).base (by omega)
    · go_wp2
      go_region
      all_goals
        go_wp2
        have X := HU8.out
        refine bodyPost_ret (by simp [results, Try.results51, go_sem, *]; try rfl) rfl ⟨A1, k1, ms1, A8, k8, ms8, d6, rfl, ?_, ?_, by omega, HR8.out.upd (by repeat (first | with_reducible assumption | with_reducible exact Upd.refl _ _ | with_reducible apply Upd.drewN | with_reducible apply Upd.drew | with_reducible apply Upd.alloc | with_reducible refine Upd.set ?_ (by first | (left; simp; done) | (left; simp; omega) | (right; simp; done) | (right; simp; omega) | (right; omega)) _ | with_reducible refine Upd.next ?_ (Upd.of_ext (by with_reducible assumption)))), (by repeat (first | with_reducible assumption | with_reducible exact Upd.refl _ _ | with_reducible apply Upd.drewN | with_reducible apply Upd.drew | with_reducible apply Upd.alloc | with_reducible refine Upd.set ?_ (by first | (left; simp; done) | (left; simp; omega) | (right; simp; done) | (right; simp; omega) | (right; omega)) _ | with_reducible refine Upd.next ?_ (Upd.of_ext (by with_reducible assumption))))⟩
        · exact (HG18.out.upd (S := fun b => b < _) (by repeat (first | with_reducible assumption | with_reducible exact Upd.refl _ _ | with_reducible apply Upd.drewN | with_reducible apply Upd.drew | with_reducible apply Upd.alloc | with_reducible refine Upd.set ?_ (by first | (left; simp; done) | (left; simp; omega) | (right; simp; done) | (right; simp; omega) | (right; omega)) _ | with_reducible refine Upd.next ?_ (Upd.of_ext (by with_reducible assumption)))) (fun b hb => hb)).base (by omega)
        · exact ((HG8.out.upd (S := fun b => b < _) (by repeat (first | with_reducible assumption | with_reducible exact Upd.refl _ _ | with_reducible apply Upd.drewN | with_reducible apply Upd.drew | with_reducible apply Upd.alloc | with_reducible refine Upd.set ?_ (by first | (left; simp; done) | (left; simp; omega) | (right; simp; done) | (right; simp; omega) | (right; omega)) _ | with_reducible refine Upd.next ?_ (Upd.of_ext (by with_reducible assumption)))) (fun b hb => hb)).base (by omega)).more (by have := HG8.out.sz.1; omega)
  · go_wp2
    go_region
    all_goals
      go_wp2
      have X := HU.out
      refine bodyPost_ret (by simp [results, Try.results51, go_sem, *]; try rfl) rfl ⟨A1, k1, ms1, A2, k2, ms2, d2 + 1, rfl, ?_, ?_, by omega, HR.out.upd (by repeat (first | with_reducible assumption | with_reducible exact Upd.refl _ _ | with_reducible apply Upd.drewN | with_reducible apply Upd.drew | with_reducible apply Upd.alloc | with_reducible refine Upd.set ?_ (by first | (left; simp; done) | (left; simp; omega) | (right; simp; done) | (right; simp; omega) | (right; omega)) _ | with_reducible refine Upd.next ?_ (Upd.of_ext (by with_reducible assumption)))), (by repeat (first | with_reducible assumption | with_reducible exact Upd.refl _ _ | with_reducible apply Upd.drewN | with_reducible apply Upd.drew | with_reducible apply Upd.alloc | with_reducible refine Upd.set ?_ (by first | (left; simp; done) | (left; simp; omega) | (right; simp; done) | (right; simp; omega) | (right; omega)) _ | with_reducible refine Upd.next ?_ (Upd.of_ext (by with_reducible assumption))))⟩
      · exact (HG1.out.upd (S := fun b => b < _) (by repeat (first | with_reducible assumption | with_reducible exact Upd.refl _ _ | with_reducible apply Upd.drewN | with_reducible apply Upd.drew | with_reducible apply Upd.alloc | with_reducible refine Upd.set ?_ (by first | (left; simp; done) | (left; simp; omega) | (right; simp; done) | (right; simp; omega) | (right; omega)) _ | with_reducible refine Upd.next ?_ (Upd.of_ext (by with_reducible assumption)))) (fun b hb => hb)).base (by omega)
      · exact (HG2.out.upd (S := fun b => b < _) (by repeat (first | with_reducible assumption | with_reducible exact Upd.refl _ _ | with_reducible apply Upd.drewN | with_reducible apply Upd.drew | with_reducible apply Upd.alloc | with_reducible refine Upd.set ?_ (by first | (left; simp; done) | (left; simp; omega) | (right; simp; done) | (right; simp; omega) | (right; omega)) _ | with_reducible refine Upd.next ?_ (Upd.of_ext (by with_reducible assumption)))) (fun b hb => hb)).base (by omega)
end Go.Proofs.Ytcgelcaepkakaaa
