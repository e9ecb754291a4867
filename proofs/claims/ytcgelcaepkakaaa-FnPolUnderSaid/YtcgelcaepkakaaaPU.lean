/- The reference's draws for the laws of sums; the laws' own 'laWords' and 'laDeg'. Conditions: lengths that a machine can hold. -/
import Derived.Test.YtcgelcaepkakaaaPT
namespace Go.Proofs.Ytcgelcaepkakaaa
open Go Go.RowKit
set_option linter.unusedVariables false
set_option linter.unusedSimpArgs false

def RetDT (TM TI : TypeId) (w : World) (e : Ending) (w' : World) : Prop :=
  ∃ A1 k1 ms1 A2 k2 ms2, e = .returned (.tuple #[.agg #[.slice A1 (List.length ms1) k1], .agg #[.slice A2 (List.length ms2) k2]]) ∧ GPN 200 TM TI w' w.heap.size A1 k1 ms1 ∧ GPN 200 TM TI w' w.heap.size A2 k2 ms2 ∧ Ext w w'
theorem drawAdd (A : Option Addr) (k : Nat) (bs : List Int) (w : World) (h : AB w A bs) (hn : bs.length ≤ 9223372036854775807) (hk : bs.length ≤ k) :
    Calls Try.prog 27 #[.slice A bs.length k] w (RetDT 73 3 w) := by
  go_enter Try.func27, Try.ntmps27
  go_wp2_with fail
  refine (open_ _ _ _ _ (h.ext (by repeat (first | with_reducible assumption | with_reducible exact Ext.refl _ | with_reducible apply Ext.drewN | with_reducible apply Ext.drew | with_reducible apply Ext.alloc | with_reducible refine Ext.set ?_ (by first | (simp; done) | (simp; omega)) _ | with_reducible refine Ext.next ?_ (by with_reducible assumption)))) hn hk).mono ?_
  rintro e w1 ⟨r, A', k', m, rfl, hR, hr, hw1⟩
  have V1 : Var w1 w.heap.size (.slice none 0 0) := Var.ext ⟨by go_simp, by go_simp⟩ hw1
  have X1 : Var w1 (w.heap.size + 1) (.slice none 0 0) := Var.ext ⟨by go_simp, by go_simp⟩ hw1
  have hr' : w.heap.size + 2 ≤ r := by simpa using hr
  have E1 : Ext w w1 := (by repeat (first | with_reducible assumption | with_reducible exact Ext.refl _ | with_reducible apply Ext.drewN | with_reducible apply Ext.drew | with_reducible apply Ext.alloc | with_reducible refine Ext.set ?_ (by first | (simp; done) | (simp; omega)) _ | with_reducible refine Ext.next ?_ (by with_reducible assumption)))
  have hrs := hR.size
  clear hr hw1
  go_wp2_with fail
  refine (two21 _ _ _ _ _ _ _ _ hR (by omega)).mono ?_
  rintro e w2 ⟨A1, k1, ms1, A2, k2, ms2, d2, rfl, G1, G2, hd2, R2, U2⟩
  obtain ⟨v0, v1⟩ := V1.upd U2 (fun hb => by have e : w.heap.size = r := hb; omega)
  obtain ⟨x0, x1⟩ := X1.upd U2 (fun hb => by have e : (w.heap.size + 1) = r := hb; omega)
  have hxl := World.block_lt_of_cell? _ _ x0
  simp only at hxl
  have hvl : w.heap.size < w2.heap.size := by omega
  have HG1 := hid (G1.base (show w.heap.size + 2 ≤ w1.heap.size by omega))
  have HG2 := hid (G2.base (show w.heap.size + 2 ≤ w1.heap.size by omega))
  have HE : Hid (Ext w w2) := hid (((Upd.of_ext E1).next U2).ext fun b hb => by have e : b = r := hb; omega)
  clear U2 G1 G2 V1 X1 E1
  go_wp2
  have X := HE.out
  refine bodyPost_ret (by simp [results, Try.results27, go_sem, *]; try rfl) rfl ⟨A1, k1, ms1, A2, k2, ms2, rfl, ?_, ?_, (by repeat (first | with_reducible assumption | with_reducible exact Ext.refl _ | with_reducible apply Ext.drewN | with_reducible apply Ext.drew | with_reducible apply Ext.alloc | with_reducible refine Ext.set ?_ (by first | (simp; done) | (simp; omega)) _ | with_reducible refine Ext.next ?_ (by with_reducible assumption)))⟩
  · exact (HG1.out.upd (S := fun b => b < _) (by repeat (first | with_reducible assumption | with_reducible exact Upd.refl _ _ | with_reducible apply Upd.drewN | with_reducible apply Upd.drew | with_reducible apply Upd.alloc | with_reducible refine Upd.set ?_ (by first | (left; simp; done) | (left; simp; omega) | (right; simp; done) | (right; simp; omega) | (right; omega)) _ | with_reducible refine Upd.next ?_ (Upd.of_ext (by with_reducible assumption)))) (fun b hb => hb)).base (by omega)
  · exact (HG2.out.upd (S := fun b => b < _) (by repeat (first | with_reducible assumption | with_reducible exact Upd.refl _ _ | with_reducible apply Upd.drewN | with_reducible apply Upd.drew | with_reducible apply Upd.alloc | with_reducible refine Upd.set ?_ (by first | (left; simp; done) | (left; simp; omega) | (right; simp; done) | (right; simp; omega) | (right; omega)) _ | with_reducible refine Upd.next ?_ (Upd.of_ext (by with_reducible assumption)))) (fun b hb => hb)).base (by omega)

theorem drawMul (A : Option Addr) (k : Nat) (bs : List Int) (w : World) (h : AB w A bs) (hn : bs.length ≤ 9223372036854775807) (hk : bs.length ≤ k) :
    Calls Try.prog 11 #[.slice A bs.length k] w (RetDT 73 3 w) := by
  go_enter Try.func11, Try.ntmps11
  go_wp2_with fail
  refine (open_ _ _ _ _ (h.ext (by repeat (first | with_reducible assumption | with_reducible exact Ext.refl _ | with_reducible apply Ext.drewN | with_reducible apply Ext.drew | with_reducible apply Ext.alloc | with_reducible refine Ext.set ?_ (by first | (simp; done) | (simp; omega)) _ | with_reducible refine Ext.next ?_ (by with_reducible assumption)))) hn hk).mono ?_
  rintro e w1 ⟨r, A', k', m, rfl, hR, hr, hw1⟩
  have V1 : Var w1 w.heap.size (.slice none 0 0) := Var.ext ⟨by go_simp, by go_simp⟩ hw1
  have X1 : Var w1 (w.heap.size + 1) (.slice none 0 0) := Var.ext ⟨by go_simp, by go_simp⟩ hw1
  have hr' : w.heap.size + 2 ≤ r := by simpa using hr
  have E1 : Ext w w1 := (by repeat (first | with_reducible assumption | with_reducible exact Ext.refl _ | with_reducible apply Ext.drewN | with_reducible apply Ext.drew | with_reducible apply Ext.alloc | with_reducible refine Ext.set ?_ (by first | (simp; done) | (simp; omega)) _ | with_reducible refine Ext.next ?_ (by with_reducible assumption)))
  have hrs := hR.size
  clear hr hw1
  go_wp2_with fail
  refine (two21 _ _ _ _ _ _ _ _ hR (by omega)).mono ?_
  rintro e w2 ⟨A1, k1, ms1, A2, k2, ms2, d2, rfl, G1, G2, hd2, R2, U2⟩
  obtain ⟨v0, v1⟩ := V1.upd U2 (fun hb => by have e : w.heap.size = r := hb; omega)
  obtain ⟨x0, x1⟩ := X1.upd U2 (fun hb => by have e : (w.heap.size + 1) = r := hb; omega)
  have hxl := World.block_lt_of_cell? _ _ x0
  simp only at hxl
  have hvl : w.heap.size < w2.heap.size := by omega
  have HG1 := hid (G1.base (show w.heap.size + 2 ≤ w1.heap.size by omega))
  have HG2 := hid (G2.base (show w.heap.size + 2 ≤ w1.heap.size by omega))
  have HE : Hid (Ext w w2) := hid (((Upd.of_ext E1).next U2).ext fun b hb => by have e : b = r := hb; omega)
  clear U2 G1 G2 V1 X1 E1
  go_wp2
  have X := HE.out
  refine bodyPost_ret (by simp [results, Try.results11, go_sem, *]; try rfl) rfl ⟨A1, k1, ms1, A2, k2, ms2, rfl, ?_, ?_, (by repeat (first | with_reducible assumption | with_reducible exact Ext.refl _ | with_reducible apply Ext.drewN | with_reducible apply Ext.drew | with_reducible apply Ext.alloc | with_reducible refine Ext.set ?_ (by first | (simp; done) | (simp; omega)) _ | with_reducible refine Ext.next ?_ (by with_reducible assumption)))⟩
  · exact (HG1.out.upd (S := fun b => b < _) (by repeat (first | with_reducible assumption | with_reducible exact Upd.refl _ _ | with_reducible apply Upd.drewN | with_reducible apply Upd.drew | with_reducible apply Upd.alloc | with_reducible refine Upd.set ?_ (by first | (left; simp; done) | (left; simp; omega) | (right; simp; done) | (right; simp; omega) | (right; omega)) _ | with_reducible refine Upd.next ?_ (Upd.of_ext (by with_reducible assumption)))) (fun b hb => hb)).base (by omega)
  · exact (HG2.out.upd (S := fun b => b < _) (by repeat (first | with_reducible assumption | with_reducible exact Upd.refl _ _ | with_reducible apply Upd.drewN | with_reducible apply Upd.drew | with_reducible apply Upd.alloc | with_reducible refine Upd.set ?_ (by first | (left; simp; done) | (left; simp; omega) | (right; simp; done) | (right; simp; omega) | (right; omega)) _ | with_reducible refine Upd.next ?_ (Upd.of_ext (by with_reducible assumption)))) (fun b hb => hb)).base (by omega)



def RetPV (TM TI : TypeId) (w : World) (e : Ending) (w' : World) : Prop :=
  ∃ A1 k1 ms1 A2 k2 xs, e = .returned (.tuple #[.agg #[.slice A1 (List.length ms1) k1], .slice A2 (List.length xs) k2]) ∧ GPN 200 TM TI w' w.heap.size A1 k1 ms1 ∧ OI TI w' w.heap.size A2 k2 xs ∧ xs.length ≤ 8 ∧ Ext w w'
set_option maxHeartbeats 1000000 in
theorem drawEval (A : Option Addr) (k : Nat) (bs : List Int) (w : World) (h : AB w A bs) (hn : bs.length ≤ 9223372036854775807) (hk : bs.length ≤ k) :
    Calls Try.prog 12 #[.slice A bs.length k] w (RetPV 73 3 w) := by
  go_enter Try.func12, Try.ntmps12
  go_wp2_with fail
  refine (open_ _ _ _ _ (h.ext (by repeat (first | with_reducible assumption | with_reducible exact Ext.refl _ | with_reducible apply Ext.drewN | with_reducible apply Ext.drew | with_reducible apply Ext.alloc | with_reducible refine Ext.set ?_ (by first | (simp; done) | (simp; omega)) _ | with_reducible refine Ext.next ?_ (by with_reducible assumption)))) hn hk).mono ?_
  rintro e w1 ⟨r, A', k', m, rfl, hR, hr, hw1⟩
  have V1 : Var w1 w.heap.size (.slice none 0 0) := Var.ext ⟨by go_simp, by go_simp⟩ hw1
  have hr' : w.heap.size + 1 ≤ r := by simpa using hr
  have E1 : Ext w w1 := (by repeat (first | with_reducible assumption | with_reducible exact Ext.refl _ | with_reducible apply Ext.drewN | with_reducible apply Ext.drew | with_reducible apply Ext.alloc | with_reducible refine Ext.set ?_ (by first | (simp; done) | (simp; omega)) _ | with_reducible refine Ext.next ?_ (by with_reducible assumption)))
  have hrs := hR.size
  clear hr hw1
  go_wp2_with fail
  refine (pick _ _ _ _ _ _ _ _ hR (by omega)).mono ?_
  rintro e w2 ⟨u, rfl, hu0, hu1, R2, U2⟩
  have hu2 := hu1 (by omega)
  have V2 := V1.upd U2 (fun hb => by have e : w.heap.size = r := hb; omega)
  have hr2 := R2.size
  have hv2 := V2.lt
  clear hu1
  go_wp2_with fail
  refine (words20 _ _ _ _ _ _ _ 6 _ R2 (by omega) (by omega) (by omega)).mono ?_
  rintro e w3 ⟨A3, k3, xs, d3, rfl, ho3, hl3, hw3, hd3, R3, U3⟩
  have V3 := V2.upd U3 (fun hb => by have e : w.heap.size = r := hb; omega)
  have hr3 := R3.size
  have hv3 := V3.lt
  have hs3 := U3.size
  go_wp2_with fail
  refine (odd _ _ _ _ _ _ _ _ R3 (by omega)).mono ?_
  rintro e w4 ⟨v, rfl, R4, U4⟩
  have HV4 := hid (V3.upd U4 (fun hb => by have e : w.heap.size = r := hb; omega))
  have HR4 := hid R4
  have HU4 := hid ((((Upd.of_ext E1).next U2).next U3).next U4)
  have HX4 : Hid (OI 3 w4 (r + 1) A3 k3 xs) := hid (own_base (own_upd' ho3 U4 fun b hb e => by have h1 := (own_atB ho3 hb).1; have h2 : b = r := e; omega) hr2)
  have hr4 := R4.size
  have hv4 := HV4.out.lt
  clear U2 U3 U4 R2 R3 R4 V1 V2 V3 ho3 E1 hw3
  cases v
  · go_wp2_with fail
    refine (polyOr21 _ _ _ _ _ _ _ _ (HR4.out.ext (by repeat (first | with_reducible assumption | with_reducible exact Ext.refl _ | with_reducible apply Ext.drewN | with_reducible apply Ext.drew | with_reducible apply Ext.alloc | with_reducible refine Ext.set ?_ (by first | (simp; done) | (simp; omega)) _ | with_reducible refine Ext.next ?_ (by with_reducible assumption)))) (by omega)).mono ?_
    rintro e w6 ⟨A6, k6, ms6, d6, rfl, G6, hd6, R6, U6⟩
    have U46 : Upd (fun b => b = r) w4 w6 := (Upd.of_ext (by repeat (first | with_reducible assumption | with_reducible exact Ext.refl _ | with_reducible apply Ext.drewN | with_reducible apply Ext.drew | with_reducible apply Ext.alloc | with_reducible refine Ext.set ?_ (by first | (simp; done) | (simp; omega)) _ | with_reducible refine Ext.next ?_ (by with_reducible assumption)))).next U6
    obtain ⟨v0, v1⟩ := Var.upd (w' := w6) HV4.out U46 (fun hb => by have e : w.heap.size = r := hb; omega)
    have hvl := World.block_lt_of_cell? _ _ v0
    simp only at hvl
    have HG := hid (G6.base (show w.heap.size + 1 ≤ _ by first | omega | (simp; omega)))
    have HX := hid (own_upd' HX4.out U46 fun b hb e => by have h1 := (own_atB HX4.out hb).1; have h2 : b = r := e; omega)
    have HE : Hid (Ext w w6) := hid ((HU4.out.next U46).ext fun b hb => by have e : b = r := hb; omega)
    clear U6 U46 G6
    go_wp2
    have X := HE.out
    refine bodyPost_ret (by simp [results, Try.results12, go_sem, *]; try rfl) rfl ⟨A6, k6, ms6, A3, k3, xs, by first | rfl | (simp; done), ?_, ?_, by first | omega | (simp; omega), (by repeat (first | with_reducible assumption | with_reducible exact Ext.refl _ | with_reducible apply Ext.drewN | with_reducible apply Ext.drew | with_reducible apply Ext.alloc | with_reducible refine Ext.set ?_ (by first | (simp; done) | (simp; omega)) _ | with_reducible refine Ext.next ?_ (by with_reducible assumption)))⟩
    · exact (HG.out.upd (S := fun b => b < _) (by repeat (first | with_reducible assumption | with_reducible exact Upd.refl _ _ | with_reducible apply Upd.drewN | with_reducible apply Upd.drew | with_reducible apply Upd.alloc | with_reducible refine Upd.set ?_ (by first | (left; simp; done) | (left; simp; omega) | (right; simp; done) | (right; simp; omega) | (right; omega)) _ | with_reducible refine Upd.next ?_ (Upd.of_ext (by with_reducible assumption)))) (fun b hb => hb)).base (by omega)
    · exact own_base (own_upd' (S := fun b => b < w.heap.size + 1) HX.out (by repeat (first | with_reducible assumption | with_reducible exact Upd.refl _ _ | with_reducible apply Upd.drewN | with_reducible apply Upd.drew | with_reducible apply Upd.alloc | with_reducible refine Upd.set ?_ (by first | (left; simp; done) | (left; simp; omega) | (right; simp; done) | (right; simp; omega) | (right; omega)) _ | with_reducible refine Upd.next ?_ (Upd.of_ext (by with_reducible assumption)))) (fun b hb e => by have h1 := (own_atB HX.out hb).1; have h2 : b < w.heap.size + 1 := e; omega)) (by omega)
  · obtain ⟨v0, v1⟩ := HV4.out
    go_wp2_with (at_builtin; (refine app_int Try.underlying28 info_int rfl _ _ rfl (r + 1) A3 k3 xs (HX4.out.ext (by repeat (first | with_reducible assumption | with_reducible exact Ext.refl _ | with_reducible apply Ext.drewN | with_reducible apply Ext.drew | with_reducible apply Ext.alloc | with_reducible refine Ext.set ?_ (by first | (simp; done) | (simp; omega)) _ | with_reducible refine Ext.next ?_ (by with_reducible assumption)))) xs.length rfl rfl (-1) ⟨w4.heap.size, 0, none⟩ 1 rfl (by rw [addr_add]; go_simp) (by omega) (by simp; omega) ?_); (intro A5 k5 w5 ho5 hu5); (have hs5 := hu5.size); (simp at hs5); (have HX5 := hid ho5); (have HV5 := hid (Var.upd (Var.ext HV4.out ((Ext.refl w4).alloc _)) hu5 (fun hb => by have := (own_atB HX4.out hb).1; omega))); (have HR5 := hid ((HR4.out.ext ((Ext.refl w4).alloc _)).upd2 (hu5.mono fun b _ hb => by have h1 := (own_atB HX4.out hb).1; omega))); (have HU5 := hid ((HU4.out.next (.of_ext ((Ext.refl w4).alloc _))).far2 hu5 fun b hb => by have := (own_atB HX4.out hb).1; omega)); clear ho5 hu5)
    go_wp2_with fail
    refine (polyOr21 _ _ _ _ _ _ _ _ (HR5.out.ext (by repeat (first | with_reducible assumption | with_reducible exact Ext.refl _ | with_reducible apply Ext.drewN | with_reducible apply Ext.drew | with_reducible apply Ext.alloc | with_reducible refine Ext.set ?_ (by first | (simp; done) | (simp; omega)) _ | with_reducible refine Ext.next ?_ (by with_reducible assumption)))) (by omega)).mono ?_
    rintro e w6 ⟨A6, k6, ms6, d6, rfl, G6, hd6, R6, U6⟩
    have U46 : Upd (fun b => b = r) w5 w6 := (Upd.of_ext (by repeat (first | with_reducible assumption | with_reducible exact Ext.refl _ | with_reducible apply Ext.drewN | with_reducible apply Ext.drew | with_reducible apply Ext.alloc | with_reducible refine Ext.set ?_ (by first | (simp; done) | (simp; omega)) _ | with_reducible refine Ext.next ?_ (by with_reducible assumption)))).next U6
    obtain ⟨v0, v1⟩ := Var.upd (w' := w6) HV5.out U46 (fun hb => by have e : w.heap.size = r := hb; omega)
    have hvl := World.block_lt_of_cell? _ _ v0
    simp only at hvl
    have HG := hid (G6.base (show w.heap.size + 1 ≤ _ by first | omega | (simp; omega)))
    have HX := hid (own_upd' HX5.out U46 fun b hb e => by have h1 := (own_atB HX5.out hb).1; have h2 : b = r := e; omega)
    have HE : Hid (Ext w w6) := hid ((HU5.out.next U46).ext fun b hb => by have e : b = r := hb; omega)
    clear U6 U46 G6
    go_wp2
    have X := HE.out
    refine bodyPost_ret (by simp [results, Try.results12, go_sem, *]; try rfl) rfl ⟨A6, k6, ms6, A5, k5, (xs ++ [-1]), by first | rfl | (simp; done), ?_, ?_, by first | omega | (simp; omega), (by repeat (first | with_reducible assumption | with_reducible exact Ext.refl _ | with_reducible apply Ext.drewN | with_reducible apply Ext.drew | with_reducible apply Ext.alloc | with_reducible refine Ext.set ?_ (by first | (simp; done) | (simp; omega)) _ | with_reducible refine Ext.next ?_ (by with_reducible assumption)))⟩
    · exact (HG.out.upd (S := fun b => b < _) (by repeat (first | with_reducible assumption | with_reducible exact Upd.refl _ _ | with_reducible apply Upd.drewN | with_reducible apply Upd.drew | with_reducible apply Upd.alloc | with_reducible refine Upd.set ?_ (by first | (left; simp; done) | (left; simp; omega) | (right; simp; done) | (right; simp; omega) | (right; omega)) _ | with_reducible refine Upd.next ?_ (Upd.of_ext (by with_reducible assumption)))) (fun b hb => hb)).base (by omega)
    · exact own_base (own_upd' (S := fun b => b < w.heap.size + 1) HX.out (by repeat (first | with_reducible assumption | with_reducible exact Upd.refl _ _ | with_reducible apply Upd.drewN | with_reducible apply Upd.drew | with_reducible apply Upd.alloc | with_reducible refine Upd.set ?_ (by first | (left; simp; done) | (left; simp; omega) | (right; simp; done) | (right; simp; omega) | (right; omega)) _ | with_reducible refine Upd.next ?_ (Upd.of_ext (by with_reducible assumption)))) (fun b hb e => by have h1 := (own_atB HX.out hb).1; have h2 : b < w.heap.size + 1 := e; omega)) (by omega)

theorem drawConst (A : Option Addr) (k : Nat) (bs : List Int) (w : World) (h : AB w A bs) (hn : bs.length ≤ 9223372036854775807) (hk : bs.length ≤ k) :
    Calls Try.prog 34 #[.slice A bs.length k] w fun e w' => ∃ v : Int, e = .returned (.int .i64 v) ∧ I64 v ∧ Ext w w' := by
  go_enter Try.func34, Try.ntmps34
  go_wp2_with fail
  refine (open_ _ _ _ _ (h.ext (by repeat (first | with_reducible assumption | with_reducible exact Ext.refl _ | with_reducible apply Ext.drewN | with_reducible apply Ext.drew | with_reducible apply Ext.alloc | with_reducible refine Ext.set ?_ (by first | (simp; done) | (simp; omega)) _ | with_reducible refine Ext.next ?_ (by with_reducible assumption)))) hn hk).mono ?_
  rintro e w1 ⟨r, A', k', m, rfl, hR, hr, hw1⟩
  have E1 : Ext w w1 := (by repeat (first | with_reducible assumption | with_reducible exact Ext.refl _ | with_reducible apply Ext.drewN | with_reducible apply Ext.drew | with_reducible apply Ext.alloc | with_reducible refine Ext.set ?_ (by first | (simp; done) | (simp; omega)) _ | with_reducible refine Ext.next ?_ (by with_reducible assumption)))
  go_wp2_with fail
  refine (wordOr _ _ _ _ _ _ _ _ hR (by omega)).mono ?_
  rintro e w2 ⟨v, d2, rfl, hv, hd2, R2, U2⟩
  have HE : Hid (Ext w w2) := hid (((Upd.of_ext E1).next U2).ext fun b hb => by have e : b = r := hb; omega)
  clear U2
  go_wp2
  go_ret
  exact ⟨v, rfl, hv, HE.out⟩

def RetP1 (TM TI : TypeId) (w : World) (v : Option Addr → Nat → Nat → Int → Value) (φ : Int → Prop) (e : Ending) (w' : World) : Prop :=
  ∃ A1 k1 ms1 x, e = .returned (v A1 (List.length ms1) k1 x) ∧ GPN 200 TM TI w' w.heap.size A1 k1 ms1 ∧ φ x ∧ Ext w w'
theorem drawUnder (A : Option Addr) (k : Nat) (bs : List Int) (w : World) (h : AB w A bs) (hn : bs.length ≤ 9223372036854775807) (hk : bs.length ≤ k) :
    Calls Try.prog 30 #[.slice A bs.length k] w (RetP1 73 3 w (fun A n k x => .tuple #[.agg #[.slice A n k], .int .i64 x]) (fun x => -1 ≤ x ∧ x ≤ 6)) := by
  go_enter Try.func30, Try.ntmps30
  go_wp2_with fail
  refine (open_ _ _ _ _ (h.ext (by repeat (first | with_reducible assumption | with_reducible exact Ext.refl _ | with_reducible apply Ext.drewN | with_reducible apply Ext.drew | with_reducible apply Ext.alloc | with_reducible refine Ext.set ?_ (by first | (simp; done) | (simp; omega)) _ | with_reducible refine Ext.next ?_ (by with_reducible assumption)))) hn hk).mono ?_
  rintro e w1 ⟨r, A', k', m, rfl, hR, hr, hw1⟩
  have V1 : Var w1 w.heap.size (.slice none 0 0) := Var.ext ⟨by go_simp, by go_simp⟩ hw1
  have hr' : w.heap.size + 1 ≤ r := by simpa using hr
  have E1 : Ext w w1 := (by repeat (first | with_reducible assumption | with_reducible exact Ext.refl _ | with_reducible apply Ext.drewN | with_reducible apply Ext.drew | with_reducible apply Ext.alloc | with_reducible refine Ext.set ?_ (by first | (simp; done) | (simp; omega)) _ | with_reducible refine Ext.next ?_ (by with_reducible assumption)))
  have hrs := hR.size
  clear hr hw1
  go_wp2_with fail
  refine (polyOr21 _ _ _ _ _ _ _ _ hR (by omega)).mono ?_
  rintro e w2 ⟨A2, k2, ms2, d2, rfl, G2, hd2, R2, U2⟩
  have V2 := V1.upd U2 (fun hb => by have e : w.heap.size = r := hb; omega)
  go_wp2_with fail
  refine (pick _ _ _ _ _ _ _ _ R2 (by omega)).mono ?_
  rintro e w3 ⟨v, rfl, hv0, hv1, R3, U3⟩
  have hv2 := hv1 (by omega)
  obtain ⟨v0, v1⟩ := V2.upd U3 (fun hb => by have e : w.heap.size = r := hb; omega)
  have hvl := World.block_lt_of_cell? _ _ v0
  simp only at hvl
  have HG := hid ((G2.upd U3 (fun b hb => by have e : b = r := hb; omega)).base (show w.heap.size + 1 ≤ w1.heap.size by omega))
  have HE : Hid (Ext w w3) := hid ((((Upd.of_ext E1).next U2).next U3).ext fun b hb => by have e : b = r := hb; omega)
  clear U2 U3 G2 V1 V2 E1 hv1
  go_wp2
  have X := HE.out
  refine bodyPost_ret (by simp [results, Try.results30, go_sem, *]; try rfl) rfl ⟨A2, k2, ms2, _, rfl, (HG.out.upd (S := fun b => b < _) (by repeat (first | with_reducible assumption | with_reducible exact Upd.refl _ _ | with_reducible apply Upd.drewN | with_reducible apply Upd.drew | with_reducible apply Upd.alloc | with_reducible refine Upd.set ?_ (by first | (left; simp; done) | (left; simp; omega) | (right; simp; done) | (right; simp; omega) | (right; omega)) _ | with_reducible refine Upd.next ?_ (Upd.of_ext (by with_reducible assumption)))) (fun b hb => hb)).base (by omega), ⟨by omega, by omega⟩, (by repeat (first | with_reducible assumption | with_reducible exact Ext.refl _ | with_reducible apply Ext.drewN | with_reducible apply Ext.drew | with_reducible apply Ext.alloc | with_reducible refine Ext.set ?_ (by first | (simp; done) | (simp; omega)) _ | with_reducible refine Ext.next ?_ (by with_reducible assumption)))⟩

theorem drawNum (A : Option Addr) (k : Nat) (bs : List Int) (w : World) (h : AB w A bs) (hn : bs.length ≤ 9223372036854775807) (hk : bs.length ≤ k) :
    Calls Try.prog 33 #[.slice A bs.length k] w (RetP1 73 3 w (fun A n k x => .agg #[.slice A n k]) (fun x => True)) := by
  go_enter Try.func33, Try.ntmps33
  go_wp2_with fail
  refine (open_ _ _ _ _ (h.ext (by repeat (first | with_reducible assumption | with_reducible exact Ext.refl _ | with_reducible apply Ext.drewN | with_reducible apply Ext.drew | with_reducible apply Ext.alloc | with_reducible refine Ext.set ?_ (by first | (simp; done) | (simp; omega)) _ | with_reducible refine Ext.next ?_ (by with_reducible assumption)))) hn hk).mono ?_
  rintro e w1 ⟨r, A', k', m, rfl, hR, hr, hw1⟩
  have V1 : Var w1 w.heap.size (.slice none 0 0) := Var.ext ⟨by go_simp, by go_simp⟩ hw1
  have hr' : w.heap.size + 1 ≤ r := by simpa using hr
  have E1 : Ext w w1 := (by repeat (first | with_reducible assumption | with_reducible exact Ext.refl _ | with_reducible apply Ext.drewN | with_reducible apply Ext.drew | with_reducible apply Ext.alloc | with_reducible refine Ext.set ?_ (by first | (simp; done) | (simp; omega)) _ | with_reducible refine Ext.next ?_ (by with_reducible assumption)))
  have hrs := hR.size
  clear hr hw1
  go_wp2_with fail
  refine (pick _ _ _ _ _ _ _ _ hR (by omega)).mono ?_
  rintro e w2 ⟨v, rfl, hv0, hv1, R2, U2⟩
  have V2 := V1.upd U2 (fun hb => by have e : w.heap.size = r := hb; omega)
  have hs2 := U2.size
  clear hv1
  cases hv : v == 0
  · go_wp2_with fail
    refine (polyOr21 _ _ _ _ _ _ _ _ R2 (by omega)).mono ?_
    rintro e w3 ⟨A3, k3, ms3, d3, rfl, G3, hd3, R3, U3⟩
    obtain ⟨v0, v1⟩ := V2.upd U3 (fun hb => by have e : w.heap.size = r := hb; omega)
    have hvl := World.block_lt_of_cell? _ _ v0
    simp only at hvl
    have HG := hid (G3.base (show w.heap.size + 1 ≤ w2.heap.size by omega))
    have HE : Hid (Ext w w3) := hid ((((Upd.of_ext E1).next U2).next U3).ext fun b hb => by have e : b = r := hb; omega)
    clear U2 U3 G3 V1 V2 E1 hv
    go_wp2
    have X := HE.out
    refine bodyPost_ret (by simp [results, Try.results33, go_sem, *]; try rfl) rfl ⟨A3, k3, ms3, 0, rfl, (HG.out.upd (S := fun b => b < _) (by repeat (first | with_reducible assumption | with_reducible exact Upd.refl _ _ | with_reducible apply Upd.drewN | with_reducible apply Upd.drew | with_reducible apply Upd.alloc | with_reducible refine Upd.set ?_ (by first | (left; simp; done) | (left; simp; omega) | (right; simp; done) | (right; simp; omega) | (right; omega)) _ | with_reducible refine Upd.next ?_ (Upd.of_ext (by with_reducible assumption)))) (fun b hb => hb)).base (by omega), trivial, (by repeat (first | with_reducible assumption | with_reducible exact Ext.refl _ | with_reducible apply Ext.drewN | with_reducible apply Ext.drew | with_reducible apply Ext.alloc | with_reducible refine Ext.set ?_ (by first | (simp; done) | (simp; omega)) _ | with_reducible refine Ext.next ?_ (by with_reducible assumption)))⟩
  · go_wp2_with fail
    refine (word _ _ _ _ _ _ _ R2 (by omega)).mono ?_
    rintro e w3 ⟨x, d3, rfl, hx, hd3, R3, U3⟩
    have V3 := V2.upd U3 (fun hb => by have e : w.heap.size = r := hb; omega)
    have hs3 := U3.size
    go_wp2_with fail
    refine (specPolConst _ _).mono ?_
    rintro e w4 ⟨A4, k4, ms4, rfl, hd4, ho4, hw4⟩
    have hok : polOk (ms4.map Mn.dat) = true := by rw [hd4]; exact polOk_polConst _
    have HG := hid (((GPN.of_ok ho4 hok).base (show w.heap.size + 1 ≤ w3.heap.size by omega)).more (N' := 200) (by have := ok_small hok; omega))
    obtain ⟨v0, v1⟩ := V3.ext hw4
    have hvl := World.block_lt_of_cell? _ _ v0
    simp only at hvl
    have HE : Hid (Ext w w4) := hid (((((Upd.of_ext E1).next U2).next U3).next (.of_ext hw4)).ext fun b hb => by have e : b = r := hb; omega)
    clear U2 U3 V1 V2 V3 E1 hv hd4 ho4 hok
    go_wp2
    have X := HE.out
    refine bodyPost_ret (by simp [results, Try.results33, go_sem, *]; try rfl) rfl ⟨A4, k4, ms4, 0, rfl, (HG.out.upd (S := fun b => b < _) (by repeat (first | with_reducible assumption | with_reducible exact Upd.refl _ _ | with_reducible apply Upd.drewN | with_reducible apply Upd.drew | with_reducible apply Upd.alloc | with_reducible refine Upd.set ?_ (by first | (left; simp; done) | (left; simp; omega) | (right; simp; done) | (right; simp; omega) | (right; omega)) _ | with_reducible refine Upd.next ?_ (Upd.of_ext (by with_reducible assumption)))) (fun b hb => hb)).base (by omega), trivial, (by repeat (first | with_reducible assumption | with_reducible exact Ext.refl _ | with_reducible apply Ext.drewN | with_reducible apply Ext.drew | with_reducible apply Ext.alloc | with_reducible refine Ext.set ?_ (by first | (simp; done) | (simp; omega)) _ | with_reducible refine Ext.next ?_ (by with_reducible assumption)))⟩

theorem laWords_ (A : Option Addr) (k : Nat) (xs : List Int) (w : World) (h : RI 3 w A xs) (hn : xs.length < 1000000) :
    Calls Try.prog 18 #[.slice A xs.length k] w (RetI 3 w (xs.map wrap)) := by
  go_enter Try.func18, Try.ntmps18
  go_wp2
  go_loopw [3, 4] (fun s i wr => ∃ (j : Nat) (A' : Option Addr) (k' : Nat), i = .int .i64 j ∧ j ≤ xs.length ∧ s = .slice A' ((xs.take j).map wrap).length k' ∧ OI 3 wr w.heap.size A' k' ((xs.take j).map wrap) ∧ Ext w wr) (fun _ i _ => (xs.length - intOf i).toNat)
  case atStart => exact ⟨0, some ⟨w.heap.size, 0, none⟩, 0, rfl, Nat.zero_le _, rfl, OI.made w (Nat.le_refl _), (by repeat (first | with_reducible assumption | with_reducible exact Ext.refl _ | with_reducible apply Ext.drewN | with_reducible apply Ext.drew | with_reducible apply Ext.alloc | with_reducible refine Ext.set ?_ (by first | (simp; done) | (simp; omega)) _ | with_reducible refine Ext.next ?_ (by with_reducible assumption)))⟩
  case round =>
    obtain ⟨j, A', k', rfl, hj, rfl, ho, hext⟩ := hrel
    have hlj : ((xs.take j).map wrap).length = j := by simp; omega
    by_cases hlt : j < xs.length
    · obtain ⟨b, o, x, rfl, hb, hx, hcell⟩ := (h.ext hext).at_ hlt
      have HT : Hid ((xs.take (j + 1)).map wrap = (xs.take j).map wrap ++ [wrap x]) := hid (by rw [List.take_add_one, hx, List.map_append]; rfl)
      have HO := hid ho
      have HL := hid hlj
      have hxs := hext.size
      clear hx ho hlj h
      generalize hL : ((xs.take j).map wrap) = ys at *
      have HY := hid hL
      clear hL
      go_wp2_with fail
      refine (specWrdWrap _ _).mono ?_
      rintro e w1 ⟨rfl, rfl⟩
      go_wp2_with (at_builtin; (refine app_int Try.underlying28 info_int rfl _ _ rfl w.heap.size A' k' ys (HO.out.ext (by repeat (first | with_reducible assumption | with_reducible exact Ext.refl _ | with_reducible apply Ext.drewN | with_reducible apply Ext.drew | with_reducible apply Ext.alloc | with_reducible refine Ext.set ?_ (by first | (simp; done) | (simp; omega)) _ | with_reducible refine Ext.next ?_ (by with_reducible assumption)))) ys.length rfl rfl (wrap x) ⟨wr.heap.size, 0, none⟩ 1 rfl (by rw [addr_add]; go_simp) (by rw [HL.out]; omega) (by simp; omega) ?_); (intro A5 k5 w5 ho5 hu5); (have HO5 := hid ho5); (have HU5 : Hid (Ext w w5) := hid (((Upd.of_ext (S := fun _ => False) (Ext.alloc hext _)).far2 hu5 fun b hb => (own_atB HO.out hb).1).ext (fun b hb => hb.elim))); clear ho5 hu5)
      go_roundw
      case rel => exact ⟨j + 1, A5, k5, by go_num, by omega, by rw [HT.out, List.length_append]; rfl, by rw [HT.out]; exact HO5.out, HU5.out⟩
      case measure => simp [intOf]; omega
    · obtain rfl : j = xs.length := by omega
      have HO := hid ho
      have e : xs.take xs.length = xs := List.take_length
      rw [e] at HO
      clear ho
      go_wp2
      go_ret
      exact ⟨A', k', by rw [e]; rfl, HO.out, hext⟩

