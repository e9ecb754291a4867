/- The reference's draw of a sum. Conditions: fewer than 2^40 bytes drawn. -/
import Derived.Test.YtcgelcaepkakaaaPD
namespace Go.Proofs.Ytcgelcaepkakaaa
open Go Go.RowKit
set_option linter.unusedVariables false
set_option linter.unusedSimpArgs false

theorem szAtom {ms : List Mn} {n : Int} (h : ms.map Mn.dat = polAtom n) : SzM ms := by
  have hl : ms.length ≤ 1 := by
    have := congrArg List.length h
    rw [List.length_map] at this
    rw [this]
    unfold polAtom
    split <;> simp
  refine ⟨by omega, fun m hm => ?_⟩
  have hm' : m.dat ∈ polAtom n := h ▸ List.mem_map_of_mem hm
  unfold polAtom at hm'
  split at hm'
  · rw [List.mem_singleton] at hm'
    have : m.xs = [n] := congrArg Prod.snd hm'
    rw [this]
    simp
  · cases hm'
theorem ucell_ {r : Nat} {W w1 : World} (hb : Upd (fun b => b = r) W w1) : (∀ b o, b ≠ r → b < W.heap.size → w1.cell? ⟨b, o, none⟩ = W.cell? ⟨b, o, none⟩) ∧ (∀ b o, b ≠ r → b < W.heap.size → w1.frozen? ⟨b, o, none⟩ = W.frozen? ⟨b, o, none⟩) :=
  ⟨fun b o h h' => hb.cell (p := ⟨b, o, none⟩) h' h, fun b o h h' => hb.frozen (p := ⟨b, o, none⟩) h' h⟩
theorem xcell_ {W w1 : World} (hb : Ext W w1) : (∀ b o, b < W.heap.size → w1.cell? ⟨b, o, none⟩ = W.cell? ⟨b, o, none⟩) ∧ (∀ b o, b < W.heap.size → w1.frozen? ⟨b, o, none⟩ = W.frozen? ⟨b, o, none⟩) :=
  ⟨fun b o h => hb.cell (p := ⟨b, o, none⟩) h, fun b o h => hb.frozen (p := ⟨b, o, none⟩) h⟩

set_option maxRecDepth 100000 in
set_option maxHeartbeats 4000000 in
theorem poly21 (r : Nat) (A : Option Addr) (k m : Nat) (bs : List Int) (c : Nat) (n : Int) (w : World) (h : Rd w r A k m bs c) (hc : c + 200 < 1099511627776) :
    Calls Try.prog 96 #[.pointer (some ⟨r, 0, none⟩), .int .i64 n] w (RetD 73 3 w r A k m bs (c + 100)) := by
  have hrs := h.size
  go_enter Try.func96, Try.ntmps96
  go_wp2_with fail
  refine (word _ _ _ _ _ _ _ (h.ext (by repeat (first | with_reducible assumption | with_reducible exact Ext.refl _ | with_reducible apply Ext.drewN | with_reducible apply Ext.drew | with_reducible apply Ext.alloc | with_reducible refine Ext.set ?_ (by first | (simp; done) | (simp; omega)) _ | with_reducible refine Ext.next ?_ (by with_reducible assumption)))) (by omega)).mono ?_
  rintro e w1 ⟨v, d1, rfl, ⟨hv0, hv1⟩, hd1, hR1, hU1⟩
  have V1 : Var w1 w.heap.size (.slice none 0 0) := ⟨(hU1.cell (p := ⟨w.heap.size, 0, none⟩) (by simp) (by simp only; omega)).trans (by go_simp), (hU1.frozen (p := ⟨w.heap.size, 0, none⟩) (by simp) (by simp only; omega)).trans (by go_simp)⟩
  have U1 : Upd (fun b => b = r) w w1 := (Upd.of_ext (by repeat (first | with_reducible assumption | with_reducible exact Ext.refl _ | with_reducible apply Ext.drewN | with_reducible apply Ext.drew | with_reducible apply Ext.alloc | with_reducible refine Ext.set ?_ (by first | (simp; done) | (simp; omega)) _ | with_reducible refine Ext.next ?_ (by with_reducible assumption)))).next hU1
  clear hU1
  go_wp2_with fail
  refine (pick _ _ _ _ _ _ _ _ (hR1.ext (by repeat (first | with_reducible assumption | with_reducible exact Ext.refl _ | with_reducible apply Ext.drewN | with_reducible apply Ext.drew | with_reducible apply Ext.alloc | with_reducible refine Ext.set ?_ (by first | (simp; done) | (simp; omega)) _ | with_reducible refine Ext.next ?_ (by with_reducible assumption)))) (by omega)).mono ?_
  rintro e w2 ⟨u, rfl, hu0, hu1, hR2, hU2⟩
  have hu2 := hu1 (by omega)
  obtain ⟨un, rfl⟩ : ∃ un : Nat, u = un := ⟨u.toNat, by omega⟩
  obtain ⟨x, hx, hxL⟩ := lit_pick [0, 1, v] (fun v => 0 ≤ v ∧ v ≤ 65535) (by simp; omega) (i := un) (show un < 3 by omega)
  have hr1 := hR1.size
  have hxc := (hU2.cell (p := ⟨w1.heap.size, un, none⟩) (by simp) (by simp only; omega)).trans (lit_cell w1 3 hxL)
  have hl2 := World.block_lt_of_cell? _ _ hxc
  simp only at hl2
  have V2 := (V1.ext ((Ext.refl w1).alloc _)).upd hU2 (by omega)
  have U2 : Upd (fun b => b = r) w w2 := U1.next ((Upd.of_ext ((Ext.refl w1).alloc _)).next hU2)
  clear U1 hU2 hxL hR1 V1 hu1
  go_wp2_with fail
  refine (specPolConst _ _).mono ?_
  rintro e w3 ⟨A3, k3, ms3, rfl, hd3, ho3, hw3⟩
  have hw2s := V2.lt
  have G3 : GP 73 3 w3 (w.heap.size + 1) A3 k3 ms3 := (GPN.of_ok ho3 (by rw [hd3]; exact polOk_polConst _)).base hw2s
  have V3 := V2.ext hw3
  have R3 := hR2.ext hw3
  have U3 := U2.next (.of_ext hw3)
  have hr3 := R3.size
  have hv3 := V3.lt
  clear hxc hR2 V2 U2 hw3 ho3 hd3
  go_wp2_with fail
  refine (pick _ _ _ _ _ _ _ _ (R3.ext (by repeat (first | with_reducible assumption | with_reducible exact Ext.refl _ | with_reducible apply Ext.drewN | with_reducible apply Ext.drew | with_reducible apply Ext.alloc | with_reducible refine Ext.set ?_ (by first | (simp; done) | (simp; omega)) _ | with_reducible refine Ext.next ?_ (by with_reducible assumption)))) (by omega)).mono ?_
  rintro e w4 ⟨u4, rfl, hu40, hu41, R4, hU4⟩
  have hu42 := hu41 (by omega)
  obtain ⟨xn, rfl⟩ : ∃ xn : Nat, u4 = xn := ⟨u4.toNat, by omega⟩
  obtain ⟨y, ⟨hy0, hy1⟩, hyL⟩ := lit_pick [0, 1, 2, 3, 6, 12] (fun v => 0 ≤ v ∧ v ≤ 12) (by decide) (i := xn) (show xn < 6 by omega)
  obtain ⟨yn, rfl⟩ : ∃ yn : Nat, y = yn := ⟨y.toNat, by omega⟩
  have P4 : Var w4 w3.heap.size (.slice A3 ms3.length k3) := ⟨(hU4.cell (p := ⟨w3.heap.size, 0, none⟩) (by simp; omega) (by simp only; omega)).trans (by go_simp), (hU4.frozen (p := ⟨w3.heap.size, 0, none⟩) (by simp; omega) (by simp only; omega)).trans (by go_simp)⟩
  have hyc : w4.cell? ⟨w3.heap.size + 1, xn, none⟩ = some (.int .i64 yn) := (hU4.cell (p := ⟨w3.heap.size + 1, xn, none⟩) (by simp) (by simp only; omega)).trans (by have := lit_cell (w3.alloc (.cells #[.slice A3 ms3.length k3] 25)) 3 hyL; simpa using this)
  have hl4 := World.block_lt_of_cell? _ _ hyc
  simp only at hl4
  have U4' : Upd (fun b => b = r) w3 w4 := (Upd.of_ext (by repeat (first | with_reducible assumption | with_reducible exact Ext.refl _ | with_reducible apply Ext.drewN | with_reducible apply Ext.drew | with_reducible apply Ext.alloc | with_reducible refine Ext.set ?_ (by first | (simp; done) | (simp; omega)) _ | with_reducible refine Ext.next ?_ (by with_reducible assumption)))).next hU4
  have V4 := V3.upd U4' (fun hb => by have e : w.heap.size = r := hb; omega)
  have G4 := G3.upd U4' (fun b hb => by have e : b = r := hb; omega)
  have U4 := U3.next U4'
  clear hU4 U4' V3 G3 U3 R3 hyL hu41
  have HG := hid G4
  have HR := hid R4
  have HU := hid U4
  have HV := hid V4
  have HP := hid P4
  clear G4 R4 U4 V4 P4
  go_wp2
  go_loopw [6, 7, 8, 9, 10, 11, 12] (fun v _ _ _ _ _ _ wr => ∃ (j : Nat) (A1 : Option Addr) (k1 : Nat) (ms1 : List Mn) (d : Nat), v = .int .i64 j ∧ j ≤ 12 ∧ Var wr w.heap.size (.slice none 0 0) ∧ Var wr w3.heap.size (.slice A1 ms1.length k1) ∧ GP 73 3 wr (w.heap.size + 1) A1 k1 ms1 ∧ Rd wr r A k m bs d ∧ d + 7 * j ≤ c + 98 ∧ Upd (fun b => b = r) w wr) (fun v _ _ _ _ _ _ _ => (intOf v).toNat)
  case atStart => exact ⟨yn, A3, k3, ms3, _, rfl, by omega, HV.out, HP.out, HG.out, HR.out, by omega, HU.out⟩
  case round =>
    obtain ⟨j, A1, k1, ms1, d, rfl, hj, hV, hP, hG, hR, hdj, hU⟩ := hrel
    obtain ⟨hV0, hV1⟩ := hV
    obtain ⟨hP0, hP1⟩ := hP
    have hrr := hR.size
    have hb0 := World.block_lt_of_cell? _ _ hV0
    have hbp := World.block_lt_of_cell? _ _ hP0
    simp only at hb0 hbp
    by_cases hlt : 0 < j
    · go_wp2_with fail
      refine (word _ _ _ _ _ _ _ hR (by omega)).mono ?_
      rintro e w5 ⟨v5, d5, rfl, ⟨hv50, hv51⟩, hd5, R5, hU5⟩
      have V5 := Var.upd (v := .slice none 0 0) ⟨hV0, hV1⟩ hU5 (fun hb => by have e : w.heap.size = r := hb; omega)
      have P5 := Var.upd (v := .slice A1 ms1.length k1) ⟨hP0, hP1⟩ hU5 (fun hb => by have e : w3.heap.size = r := hb; omega)
      have G5 := hG.upd hU5 (fun b hb => by have e : b = r := hb; omega)
      have U5 := hU.next hU5
      clear hV0 hV1 hP0 hP1 hG hR hU hU5
      go_wp2_with fail
      refine (pick _ _ _ _ _ _ _ _ (R5.ext (by repeat (first | with_reducible assumption | with_reducible exact Ext.refl _ | with_reducible apply Ext.drewN | with_reducible apply Ext.drew | with_reducible apply Ext.alloc | with_reducible refine Ext.set ?_ (by first | (simp; done) | (simp; omega)) _ | with_reducible refine Ext.next ?_ (by with_reducible assumption)))) (by omega)).mono ?_
      rintro e w6 ⟨u6, rfl, hu60, hu61, R6, hU6⟩
      have hu62 := hu61 (by omega)
      obtain ⟨jn, rfl⟩ : ∃ jn : Nat, u6 = jn := ⟨u6.toNat, by omega⟩
      have hr5 := R5.size
      have hb05 := V5.lt
      have hbp5 := P5.lt
      have U6' : Upd (fun b => b = r) w5 w6 := (Upd.of_ext (by repeat (first | with_reducible assumption | with_reducible exact Ext.refl _ | with_reducible apply Ext.drewN | with_reducible apply Ext.drew | with_reducible apply Ext.alloc | with_reducible refine Ext.set ?_ (by first | (simp; done) | (simp; omega)) _ | with_reducible refine Ext.next ?_ (by with_reducible assumption)))).next hU6
      have M6 : Var w6 (w5.heap.size + 1) (.slice (some ⟨w5.heap.size, 0, none⟩) 1 1) := ⟨(hU6.cell (p := ⟨w5.heap.size + 1, 0, none⟩) (by simp) (by simp only; omega)).trans (by go_simp), (hU6.frozen (p := ⟨w5.heap.size + 1, 0, none⟩) (by simp) (by simp only; omega)).trans (by go_simp)⟩
      have GB6 := ((GPN.one (TI := 3) w5 _ (by omega : w.heap.size + 1 ≤ w5.heap.size)).ext ((Ext.refl _).alloc _)).upd hU6 (fun b hb => by have e : b = r := hb; omega)
      have HV := hid V5
      have HP := hid P5
      have HM := hid M6
      have HA := hid G5
      have HB := hid GB6
      have HR := hid R6
      have HU := hid U6'
      have HU5 := hid U5
      clear V5 P5 M6 G5 GB6 R6 U6' hU6 U5 R5
      go_wp2
      go_loopw [8, 9, 10] (fun v _ _ wr => ∃ (j2 : Nat) (A2 : Option Addr) (k2 : Nat) (ms2 : List Mn) (d2 : Nat), v = .int .i64 j2 ∧ j2 ≤ 2 ∧ Var wr (w5.heap.size + 1) (.slice A2 ms2.length k2) ∧ GP 73 3 wr (w.heap.size + 1) A2 k2 ms2 ∧ Rd wr r A k m bs d2 ∧ d2 + j2 ≤ d + 7 ∧ Upd (fun b => b = r) w5 wr) (fun v _ _ _ => (intOf v).toNat)
      case atStart => exact ⟨jn, _, _, _, _, rfl, by omega, HM.out, HB.out, HR.out, by omega, HU.out⟩
      case round =>
        obtain ⟨j2, A2, k2, ms2, d2, rfl, hj2, hM, hGB, hR, hdj2, hU⟩ := hrel
        have hrr2 := hR.size
        have hm2 := hM.lt
        obtain ⟨hM0, hM1⟩ := hM
        have HHU := hid hU
        have HHB := hid hGB
        have HHR := hid hR
        clear hU hGB hR HM HB HR HU
        have hne : wr.heap.size ≠ r := fun e => by omega
        by_cases hgo : 0 < j2 ∧ 0 < n
        · obtain ⟨hg1, hg2⟩ := hgo
          obtain ⟨j3, rfl⟩ : ∃ j3, j2 = j3 + 1 := ⟨j2 - 1, by omega⟩
          go_wp2
          go_region_held3 (fun w' => w'.cell? ⟨w5.heap.size + 1, 0, none⟩ = some (.slice A2 ms2.length k2)) (first | ((repeat (first | with_reducible assumption | with_reducible refine keep (Ext.alloc (Ext.refl _) _) ?_ | with_reducible refine keep (Ext.drew (Ext.refl _)) ?_ | with_reducible refine keep (Ext.drewN (Ext.refl _) _) ?_ | with_reducible refine keep (by with_reducible assumption) ?_)); done) | (rw [World.cell?_setCell_far _ _ _ _ (by simp; omega)]; ((repeat (first | with_reducible assumption | with_reducible refine keep (Ext.alloc (Ext.refl _) _) ?_ | with_reducible refine keep (Ext.drew (Ext.refl _)) ?_ | with_reducible refine keep (Ext.drewN (Ext.refl _) _) ?_ | with_reducible refine keep (by with_reducible assumption) ?_)); done))) (first
            | (go_at_call 54; (refine (pick _ _ _ _ _ _ _ _ (HHR.out.ext (by repeat (first | with_reducible assumption | with_reducible exact Ext.refl _ | with_reducible apply Ext.drewN | with_reducible apply Ext.drew | with_reducible apply Ext.alloc | with_reducible refine Ext.set ?_ (by first | (simp; done) | (simp; omega)) _ | with_reducible refine Ext.next ?_ (by with_reducible assumption)))) (by omega)).mono ?_); (rintro e w7 ⟨u7, rfl, hu70, hu71, R7, hU7⟩); (obtain ⟨hc7, hf7⟩ := ucell_ hU7); (have hs7 := hU7.size); (try simp at hs7); (try (have lq7 : wr.heap.size < w7.heap.size := Nat.lt_of_lt_of_le (Nat.lt_succ_self _) hs7)); (have U7 : Upd (fun b => b = r) wr w7 := (Upd.of_ext (by repeat (first | with_reducible assumption | with_reducible exact Ext.refl _ | with_reducible apply Ext.drewN | with_reducible apply Ext.drew | with_reducible apply Ext.alloc | with_reducible refine Ext.set ?_ (by first | (simp; done) | (simp; omega)) _ | with_reducible refine Ext.next ?_ (by with_reducible assumption)))).next hU7); (obtain ⟨M7, M7f⟩ := Var.upd (v := .slice A2 ms2.length k2) ⟨hM0, hM1⟩ U7 (fun hb => by have e : (w5.heap.size + 1) = r := hb; omega)); (have HU7 := hid U7); (have HR7 := hid R7); clear U7 hU7 R7)
            | (go_at_call 121; (refine (specPolAtom _ _).mono ?_); (rintro e w8 ⟨A8, k8, ms8, rfl, hd8, ho8, hw8⟩); (obtain ⟨hc8, hf8⟩ := xcell_ hw8); (have hs8 := hw8.size); (try simp at hs8); (try (have lq8 : wr.heap.size < w8.heap.size := Nat.lt_of_lt_of_le lq7 hs8)); (try (have lw8 : w7.heap.size < w8.heap.size := Nat.lt_of_lt_of_le (Nat.lt_succ_self _) hs8)); (have HS8 := hid (szAtom hd8)); clear hd8)
            | (go_at_call 14; (refine (specPolMul _ _ _ _ ms2 ms8 _ ((HHB.out.upd HU7.out (fun b hb => by have e : b = r := hb; omega)).ext (by repeat (first | with_reducible assumption | with_reducible exact Ext.refl _ | with_reducible apply Ext.drewN | with_reducible apply Ext.drew | with_reducible apply Ext.alloc | with_reducible refine Ext.set ?_ (by first | (simp; done) | (simp; omega)) _ | with_reducible refine Ext.next ?_ (by with_reducible assumption)))).rn (ho8.rn.ext (by repeat (first | with_reducible assumption | with_reducible exact Ext.refl _ | with_reducible apply Ext.drewN | with_reducible apply Ext.drew | with_reducible apply Ext.alloc | with_reducible refine Ext.set ?_ (by first | (simp; done) | (simp; omega)) _ | with_reducible refine Ext.next ?_ (by with_reducible assumption)))) HHB.out.szM HS8.out).mono ?_); (rintro e w9 ⟨A9, k9, ms9, rfl, hd9, ho9, hw9⟩); (obtain ⟨hc9, hf9⟩ := xcell_ hw9); (have hs9 := hw9.size); (try simp at hs9); (try (have lq9 : wr.heap.size < w9.heap.size := Nat.lt_of_lt_of_le lq8 hs9)); (try (have lw9 : w7.heap.size < w9.heap.size := Nat.lt_of_lt_of_le lw8 hs9)); (try (have lv9 : w8.heap.size < w9.heap.size := Nat.lt_of_lt_of_le (Nat.lt_succ_self _) hs9)); (have HO9 := hid (GPN.of_ok ho9 (by rw [hd9]; exact polOk_polMul _ _))); (generalize (polMul (ms2.map Mn.dat) (ms8.map Mn.dat)).2 = ok); clear hd9 ho9))
          all_goals
            obtain ⟨M9, M9f⟩ := Var.ext (w := w7) (w' := w9) ⟨M7, M7f⟩ (by repeat (first | with_reducible assumption | with_reducible exact Ext.refl _ | with_reducible apply Ext.drewN | with_reducible apply Ext.drew | with_reducible apply Ext.alloc | with_reducible refine Ext.set ?_ (by first | (simp; done) | (simp; omega)) _ | with_reducible refine Ext.next ?_ (by with_reducible assumption)))
            have lb9 := World.block_lt_of_cell? _ _ M9
            simp only at lb9
            cases ok
            · go_wp2
              go_roundw
              case rel =>
                have X7 := HU7.out
                have X57 := HHU.out.next HU7.out
                exact ⟨j3, A2, k2, ms2, d2 + 1, congrArg (Value.int .i64) (by omega), by omega, Var.upd (w := wr) (S := fun b => b = r) ⟨hM0, hM1⟩ (by repeat (first | with_reducible assumption | with_reducible exact Upd.refl _ _ | with_reducible apply Upd.drewN | with_reducible apply Upd.drew | with_reducible apply Upd.alloc | with_reducible refine Upd.set ?_ (by first | (left; simp; done) | (left; simp; omega) | (right; simp; done) | (right; simp; omega) | (right; omega)) _ | with_reducible refine Upd.next ?_ (Upd.of_ext (by with_reducible assumption)))) (fun hb => by have e : (w5.heap.size + 1) = r := hb; omega), HHB.out.upd (S := fun b => b = r) (by repeat (first | with_reducible assumption | with_reducible exact Upd.refl _ _ | with_reducible apply Upd.drewN | with_reducible apply Upd.drew | with_reducible apply Upd.alloc | with_reducible refine Upd.set ?_ (by first | (left; simp; done) | (left; simp; omega) | (right; simp; done) | (right; simp; omega) | (right; omega)) _ | with_reducible refine Upd.next ?_ (Upd.of_ext (by with_reducible assumption)))) (fun b hb => by have e : b = r := hb; omega), HR7.out.upd (by repeat (first | with_reducible assumption | with_reducible exact Upd.refl _ _ | with_reducible apply Upd.drewN | with_reducible apply Upd.drew | with_reducible apply Upd.alloc | with_reducible refine Upd.set ?_ (by first | (left; simp; done) | (left; simp; omega) | (right; simp; done) | (right; simp; omega) | (right; omega)) _ | with_reducible refine Upd.next ?_ (Upd.of_ext (by with_reducible assumption)))), by omega, (by repeat (first | with_reducible assumption | with_reducible exact Upd.refl _ _ | with_reducible apply Upd.drewN | with_reducible apply Upd.drew | with_reducible apply Upd.alloc | with_reducible refine Upd.set ?_ (by first | (left; simp; done) | (left; simp; omega) | (right; simp; done) | (right; simp; omega) | (right; omega)) _ | with_reducible refine Upd.next ?_ (Upd.of_ext (by with_reducible assumption))))⟩
              case measure => simp [intOf]
            · go_wp2
              go_roundw
              case rel =>
                have X57 := HHU.out.next HU7.out
                exact ⟨j3, A9, k9, ms9, d2 + 1, congrArg (Value.int .i64) (by omega), by omega, ⟨by go_simp, by go_simp⟩, (HO9.out.upd (S := fun b => b < _) (by repeat (first | with_reducible assumption | with_reducible exact Upd.refl _ _ | with_reducible apply Upd.drewN | with_reducible apply Upd.drew | with_reducible apply Upd.alloc | with_reducible refine Upd.set ?_ (by first | (left; simp; done) | (left; simp; omega) | (right; simp; done) | (right; simp; omega) | (right; omega)) _ | with_reducible refine Upd.next ?_ (Upd.of_ext (by with_reducible assumption)))) (fun b hb => hb)).base (by first | omega | (simp; omega)), HR7.out.upd (by repeat (first | with_reducible assumption | with_reducible exact Upd.refl _ _ | with_reducible apply Upd.drewN | with_reducible apply Upd.drew | with_reducible apply Upd.alloc | with_reducible refine Upd.set ?_ (by first | (left; simp; done) | (left; simp; omega) | (right; simp; done) | (right; simp; omega) | (right; omega)) _ | with_reducible refine Upd.next ?_ (Upd.of_ext (by with_reducible assumption)))), by omega, (by repeat (first | with_reducible assumption | with_reducible exact Upd.refl _ _ | with_reducible apply Upd.drewN | with_reducible apply Upd.drew | with_reducible apply Upd.alloc | with_reducible refine Upd.set ?_ (by first | (left; simp; done) | (left; simp; omega) | (right; simp; done) | (right; simp; omega) | (right; omega)) _ | with_reducible refine Upd.next ?_ (Upd.of_ext (by with_reducible assumption))))⟩
              case measure => simp [intOf]
        · have hor : j2 = 0 ∨ (0 < j2 ∧ ¬ 0 < n) := by omega
          have GA := HA.out.upd HHU.out (fun b hb => by have e : b = r := hb; omega)
          have GB := HHB.out
          obtain ⟨hP0, hP1⟩ := HP.out.upd HHU.out (fun hb => by have e : w3.heap.size = r := hb; omega)
          have hpl := World.block_lt_of_cell? _ _ hP0
          simp only at hpl
          obtain ⟨j3, rfl⟩ : ∃ j3, j = j3 + 1 := ⟨j - 1, by omega⟩
          clear hgo
          rcases hor with rfl | ⟨hg1, hg2⟩
          all_goals
            go_wp2_with fail
            refine (specPolAdd _ _ _ _ ms1 ms2 _ (GA.rn.ext (by repeat (first | with_reducible assumption | with_reducible exact Ext.refl _ | with_reducible apply Ext.drewN | with_reducible apply Ext.drew | with_reducible apply Ext.alloc | with_reducible refine Ext.set ?_ (by first | (simp; done) | (simp; omega)) _ | with_reducible refine Ext.next ?_ (by with_reducible assumption)))) (GB.rn.ext (by repeat (first | with_reducible assumption | with_reducible exact Ext.refl _ | with_reducible apply Ext.drewN | with_reducible apply Ext.drew | with_reducible apply Ext.alloc | with_reducible refine Ext.set ?_ (by first | (simp; done) | (simp; omega)) _ | with_reducible refine Ext.next ?_ (by with_reducible assumption)))) GA.szM GB.szM).mono ?_
            rintro e w10 ⟨A10, k10, ms10, rfl, hd10, ho10, hw10⟩
            have HO := hid (GPN.of_ok ho10 (by rw [hd10]; exact polOk_polAdd _ _))
            obtain ⟨p0, p1⟩ := Var.ext (w := wr) ⟨hP0, hP1⟩ hw10
            have hpl10 := lt_ext hw10 hpl
            have hs10 := hw10.size
            generalize (polAdd (ms1.map Mn.dat) (ms2.map Mn.dat)).2 = ok
            have HGA := hid GA
            clear hd10 ho10 GA GB
            have HV10 := hid ((HV.out.upd HHU.out (fun hb => by have e : w.heap.size = r := hb; omega)).ext hw10)
            have HU10 := hid ((HU5.out.next HHU.out).next (.of_ext hw10))
            have HR10 := hid (HHR.out.ext hw10)
            have HGA10 := hid (HGA.out.ext hw10)
            cases ok
            · go_wp2
              go_roundw
              case rel =>
                exact ⟨j3, A1, k1, ms1, d2, congrArg (Value.int .i64) (by omega), by omega, HV10.out.ext (by repeat (first | with_reducible assumption | with_reducible exact Ext.refl _ | with_reducible apply Ext.drewN | with_reducible apply Ext.drew | with_reducible apply Ext.alloc | with_reducible refine Ext.set ?_ (by first | (simp; done) | (simp; omega)) _ | with_reducible refine Ext.next ?_ (by with_reducible assumption))), Var.ext (w := w10) ⟨p0, p1⟩ (by repeat (first | with_reducible assumption | with_reducible exact Ext.refl _ | with_reducible apply Ext.drewN | with_reducible apply Ext.drew | with_reducible apply Ext.alloc | with_reducible refine Ext.set ?_ (by first | (simp; done) | (simp; omega)) _ | with_reducible refine Ext.next ?_ (by with_reducible assumption))), HGA10.out.ext (by repeat (first | with_reducible assumption | with_reducible exact Ext.refl _ | with_reducible apply Ext.drewN | with_reducible apply Ext.drew | with_reducible apply Ext.alloc | with_reducible refine Ext.set ?_ (by first | (simp; done) | (simp; omega)) _ | with_reducible refine Ext.next ?_ (by with_reducible assumption))), HR10.out.ext (by repeat (first | with_reducible assumption | with_reducible exact Ext.refl _ | with_reducible apply Ext.drewN | with_reducible apply Ext.drew | with_reducible apply Ext.alloc | with_reducible refine Ext.set ?_ (by first | (simp; done) | (simp; omega)) _ | with_reducible refine Ext.next ?_ (by with_reducible assumption))), by omega, HU10.out.next (.of_ext (by repeat (first | with_reducible assumption | with_reducible exact Ext.refl _ | with_reducible apply Ext.drewN | with_reducible apply Ext.drew | with_reducible apply Ext.alloc | with_reducible refine Ext.set ?_ (by first | (simp; done) | (simp; omega)) _ | with_reducible refine Ext.next ?_ (by with_reducible assumption))))⟩
              case measure => simp [intOf]
            · go_wp2
              go_roundw
              case rel =>
                have X := HU10.out
                exact ⟨j3, A10, k10, ms10, d2, congrArg (Value.int .i64) (by omega), by omega, HV10.out.upd (S := fun b => b = w3.heap.size) (by repeat (first | with_reducible assumption | with_reducible exact Upd.refl _ _ | with_reducible apply Upd.drewN | with_reducible apply Upd.drew | with_reducible apply Upd.alloc | with_reducible refine Upd.set ?_ (by first | (left; simp; done) | (left; simp; omega) | (right; simp; done) | (right; simp; omega) | (right; omega)) _ | with_reducible refine Upd.next ?_ (Upd.of_ext (by with_reducible assumption)))) (fun hb => by have e : w.heap.size = w3.heap.size := hb; omega), ⟨by go_simp, by go_simp⟩, (HO.out.upd (S := fun b => b < _) (by repeat (first | with_reducible assumption | with_reducible exact Upd.refl _ _ | with_reducible apply Upd.drewN | with_reducible apply Upd.drew | with_reducible apply Upd.alloc | with_reducible refine Upd.set ?_ (by first | (left; simp; done) | (left; simp; omega) | (right; simp; done) | (right; simp; omega) | (right; omega)) _ | with_reducible refine Upd.next ?_ (Upd.of_ext (by with_reducible assumption)))) (fun b hb => hb)).base (by omega), HR10.out.upd (by repeat (first | with_reducible assumption | with_reducible exact Upd.refl _ _ | with_reducible apply Upd.drewN | with_reducible apply Upd.drew | with_reducible apply Upd.alloc | with_reducible refine Upd.set ?_ (by first | (left; simp; done) | (left; simp; omega) | (right; simp; done) | (right; simp; omega) | (right; omega)) _ | with_reducible refine Upd.next ?_ (Upd.of_ext (by with_reducible assumption)))), by omega, (by repeat (first | with_reducible assumption | with_reducible exact Upd.refl _ _ | with_reducible apply Upd.drewN | with_reducible apply Upd.drew | with_reducible apply Upd.alloc | with_reducible refine Upd.set ?_ (by first | (left; simp; done) | (left; simp; omega) | (right; simp; done) | (right; simp; omega) | (right; omega)) _ | with_reducible refine Upd.next ?_ (Upd.of_ext (by with_reducible assumption))))⟩
              case measure => simp [intOf]
    · obtain rfl : j = 0 := by omega
      have HG := hid hG
      have HR := hid hR
      have HU := hid hU
      clear hG hR hU
      go_wp2
      have X := HU.out
      refine bodyPost_ret (v := .agg #[.slice A1 ms1.length k1]) (by simp [results, Try.results96, go_sem, *]) rfl ⟨A1, k1, ms1, d, rfl, (HG.out.upd (S := fun b => b < _) (by repeat (first | with_reducible assumption | with_reducible exact Upd.refl _ _ | with_reducible apply Upd.drewN | with_reducible apply Upd.drew | with_reducible apply Upd.alloc | with_reducible refine Upd.set ?_ (by first | (left; simp; done) | (left; simp; omega) | (right; simp; done) | (right; simp; omega) | (right; omega)) _ | with_reducible refine Upd.next ?_ (Upd.of_ext (by with_reducible assumption)))) (fun b hb => hb)).base (by omega), by omega, HR.out.upd (by repeat (first | with_reducible assumption | with_reducible exact Upd.refl _ _ | with_reducible apply Upd.drewN | with_reducible apply Upd.drew | with_reducible apply Upd.alloc | with_reducible refine Upd.set ?_ (by first | (left; simp; done) | (left; simp; omega) | (right; simp; done) | (right; simp; omega) | (right; omega)) _ | with_reducible refine Upd.next ?_ (Upd.of_ext (by with_reducible assumption)))), (by repeat (first | with_reducible assumption | with_reducible exact Upd.refl _ _ | with_reducible apply Upd.drewN | with_reducible apply Upd.drew | with_reducible apply Upd.alloc | with_reducible refine Upd.set ?_ (by first | (left; simp; done) | (left; simp; omega) | (right; simp; done) | (right; simp; omega) | (right; omega)) _ | with_reducible refine Upd.next ?_ (Upd.of_ext (by with_reducible assumption))))⟩
end Go.Proofs.Ytcgelcaepkakaaa
