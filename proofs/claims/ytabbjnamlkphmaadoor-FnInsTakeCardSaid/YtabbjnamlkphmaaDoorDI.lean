/- The reference's draws of an instruction. Conditions: fewer than 2^40 bytes drawn. -/
import Derived.Test.YtabbjnamlkphmaaDoorJ
import Derived.Test.YtabbjnamlkphmaaDoorDW
import Derived.Test.YtabbjnamlkphmaaDoorI4
import Derived.Test.YtabbjnamlkphmaaDoorIT
namespace Go.Proofs.YtabbjnamlkphmaaDoor
open Go Go.RowKit
set_option linter.unusedVariables false
set_option linter.unusedSimpArgs false

/-- Four ints in a block. -/
def L4 (w : World) (b : Nat) (x : In4) : Prop := (w.cell? ⟨b, 0, none⟩ = some (.int .i64 x.o) ∧ w.cell? ⟨b, 1, none⟩ = some (.int .i64 x.d) ∧ w.cell? ⟨b, 2, none⟩ = some (.int .i64 x.a) ∧ w.cell? ⟨b, 3, none⟩ = some (.int .i64 x.k)) ∧ ∀ i, w.frozen? ⟨b, i, none⟩ = false
theorem L4.lt {w : World} {b : Nat} {x : In4} (h : L4 w b x) : b < w.heap.size := World.block_lt_of_cell? _ _ h.1.1
theorem L4.upd {w w' : World} {b : Nat} {x : In4} {S : Nat → Prop} (h : L4 w b x) (he : Upd S w w') (hs : ¬ S b) : L4 w' b x :=
  ⟨⟨(he.cell (p := ⟨b, 0, none⟩) h.lt hs).trans h.1.1, (he.cell (p := ⟨b, 1, none⟩) h.lt hs).trans h.1.2.1, (he.cell (p := ⟨b, 2, none⟩) h.lt hs).trans h.1.2.2.1, (he.cell (p := ⟨b, 3, none⟩) h.lt hs).trans h.1.2.2.2⟩,
    fun i => (he.frozen (p := ⟨b, i, none⟩) h.lt hs).trans (h.2 i)⟩
theorem L4.ext {w w' : World} {b : Nat} {x : In4} (h : L4 w b x) (he : Ext w w') : L4 w' b x := h.upd (S := fun _ => False) (.of_ext he) (fun h => h)
theorem ucell4 {r : Nat} {W w1 : World} (hb : Upd (fun b => b = r) W w1) : (∀ b o, b ≠ r → b < W.heap.size → w1.cell? ⟨b, o, none⟩ = W.cell? ⟨b, o, none⟩) ∧ (∀ b o, b ≠ r → b < W.heap.size → w1.frozen? ⟨b, o, none⟩ = W.frozen? ⟨b, o, none⟩) :=
  ⟨fun b o h h' => hb.cell (p := ⟨b, o, none⟩) h' h, fun b o h h' => hb.frozen (p := ⟨b, o, none⟩) h' h⟩
def RetIns (w : World) (r : Nat) (A : Option Addr) (k m : Nat) (bs : List Int) (c' : Nat) (e : Ending) (w' : World) : Prop :=
  ∃ (x : In4) (d : Nat), e = .returned (.agg #[.int .i64 x.o, .int .i64 x.d, .int .i64 x.a, .int .i64 x.k]) ∧ d ≤ c' ∧ Rd w' r A k m bs d ∧ Upd (fun b => b = r) w w'

set_option maxRecDepth 100000 in
set_option maxHeartbeats 8000000 in
theorem ins20 (r : Nat) (A : Option Addr) (k m : Nat) (bs : List Int) (c : Nat) (w : World) (h : Rd w r A k m bs c) (hc : c + 40 < 1099511627776) :
    Calls Tryd.prog 48 #[.pointer (some ⟨r, 0, none⟩)] w (RetIns w r A k m bs (c + 20)) := by
  have hrs := h.size
  go_enter Tryd.func48, Tryd.ntmps48
  go_wp2_with fail
  refine (pick _ _ _ _ _ _ _ _ (h.ext (by repeat (first | with_reducible assumption | with_reducible exact Ext.refl _ | with_reducible apply Ext.drewN | with_reducible apply Ext.drew | with_reducible apply Ext.alloc | with_reducible refine Ext.set ?_ (by first | (simp; done) | (simp; omega)) _ | with_reducible refine Ext.next ?_ (by with_reducible assumption)))) (by omega)).mono ?_
  rintro e w1 ⟨u1, rfl, hu0, hu1, R1, hU⟩
  have hlt1 := hu1 (by omega)
  clear hu1
  obtain ⟨n1, rfl⟩ : ∃ n : Nat, u1 = n := ⟨u1.toNat, by omega⟩
  have L1 : L4 w1 w.heap.size ⟨0, 0, 0, 0⟩ := L4.upd (w := w.alloc (.cells #[.int .i64 0, .int .i64 0, .int .i64 0, .int .i64 0] 25)) ⟨⟨by go_simp, by go_simp, by go_simp, by go_simp⟩, fun i => by go_simp⟩ hU (fun hb => by have e : w.heap.size = r := hb; omega)
  have T1 : Upd (fun b => b = r) w w1 := (Upd.of_ext (by repeat (first | with_reducible assumption | with_reducible exact Ext.refl _ | with_reducible apply Ext.drewN | with_reducible apply Ext.drew | with_reducible apply Ext.alloc | with_reducible refine Ext.set ?_ (by first | (simp; done) | (simp; omega)) _ | with_reducible refine Ext.next ?_ (by with_reducible assumption)))).next hU
  have hv1 := L1.lt
  have hr1 := R1.size
  clear hU
  go_wp2_with fail
  refine (pick _ _ _ _ _ _ _ _ (R1.ext (by repeat (first | with_reducible assumption | with_reducible exact Ext.refl _ | with_reducible apply Ext.drewN | with_reducible apply Ext.drew | with_reducible apply Ext.alloc | with_reducible refine Ext.set ?_ (by first | (simp; done) | (simp; omega)) _ | with_reducible refine Ext.next ?_ (by with_reducible assumption)))) (by omega)).mono ?_
  rintro e w2 ⟨u2, rfl, hu0, hu1, R2, hU⟩
  have hlt2 := hu1 (by omega)
  clear hu1
  obtain ⟨n2, rfl⟩ : ∃ n : Nat, u2 = n := ⟨u2.toNat, by omega⟩
  have hb2 : n2 < 4 := by omega
  have U2 : Upd (fun b => b = r) w1 w2 := (Upd.of_ext (by repeat (first | with_reducible assumption | with_reducible exact Ext.refl _ | with_reducible apply Ext.drewN | with_reducible apply Ext.drew | with_reducible apply Ext.alloc | with_reducible refine Ext.set ?_ (by first | (simp; done) | (simp; omega)) _ | with_reducible refine Ext.next ?_ (by with_reducible assumption)))).next hU
  obtain ⟨hc2, hf2⟩ := ucell4 hU
  have hs2 := U2.size
  have hr2 := R2.size
  have L2 := L1.upd U2 (fun hb => by have e : w.heap.size = r := hb; omega)
  have T2 := T1.next U2
  have hv2 := L2.lt
  have hne2 : w1.heap.size ≠ r := fun e => by omega
  clear hU
  clear hc2 hf2
  go_wp2_with fail
  refine (pick _ _ _ _ _ _ _ _ (R2.ext (by repeat (first | with_reducible assumption | with_reducible exact Ext.refl _ | with_reducible apply Ext.drewN | with_reducible apply Ext.drew | with_reducible apply Ext.alloc | with_reducible refine Ext.set ?_ (by first | (simp; done) | (simp; omega)) _ | with_reducible refine Ext.next ?_ (by with_reducible assumption)))) (by omega)).mono ?_
  rintro e w3 ⟨u3, rfl, hu0, hu1, R3, hU⟩
  have hlt3 := hu1 (by omega)
  clear hu1
  obtain ⟨n3, rfl⟩ : ∃ n : Nat, u3 = n := ⟨u3.toNat, by omega⟩
  have hb3 : n3 < 14 := by omega
  have U3 : Upd (fun b => b = r) w2 w3 := (Upd.of_ext (by repeat (first | with_reducible assumption | with_reducible exact Ext.refl _ | with_reducible apply Ext.drewN | with_reducible apply Ext.drew | with_reducible apply Ext.alloc | with_reducible refine Ext.set ?_ (by first | (simp; done) | (simp; omega)) _ | with_reducible refine Ext.next ?_ (by with_reducible assumption)))).next hU
  obtain ⟨hc3, hf3⟩ := ucell4 hU
  have hs3 := U3.size
  have hr3 := R3.size
  have L3 := L2.upd U3 (fun hb => by have e : w.heap.size = r := hb; omega)
  have T3 := T2.next U3
  have hv3 := L3.lt
  have hne3 : w2.heap.size ≠ r := fun e => by omega
  clear hU
  clear hc3 hf3
  have hcase : n3 = 0 ∨ n3 = 1 ∨ n3 = 2 ∨ n3 = 3 ∨ n3 = 4 ∨ n3 = 5 ∨ n3 = 6 ∨ n3 = 7 ∨ n3 = 8 ∨ n3 = 9 ∨ n3 = 10 ∨ n3 = 11 ∨ n3 = 12 ∨ n3 = 13 := by omega
  clear hlt3 hb3
  rcases hcase with rfl | rfl | rfl | rfl | rfl | rfl | rfl | rfl | rfl | rfl | rfl | rfl | rfl | rfl
  · go_wp2_with fail
    refine (pick _ _ _ _ _ _ _ _ (R3.ext (by repeat (first | with_reducible assumption | with_reducible exact Ext.refl _ | with_reducible apply Ext.drewN | with_reducible apply Ext.drew | with_reducible apply Ext.alloc | with_reducible refine Ext.set ?_ (by first | (simp; done) | (simp; omega)) _ | with_reducible refine Ext.next ?_ (by with_reducible assumption)))) (by omega)).mono ?_
    rintro e w4 ⟨u4, rfl, hu0, hu1, R4, hU⟩
    have hlt4 := hu1 (by omega)
    clear hu1
    obtain ⟨n4, rfl⟩ : ∃ n : Nat, u4 = n := ⟨u4.toNat, by omega⟩
    have hb4 : n4 < 64 := by omega
    have U4 : Upd (fun b => b = r) w3 w4 := (Upd.of_ext (by repeat (first | with_reducible assumption | with_reducible exact Ext.refl _ | with_reducible apply Ext.drewN | with_reducible apply Ext.drew | with_reducible apply Ext.alloc | with_reducible refine Ext.set ?_ (by first | (simp; done) | (simp; omega)) _ | with_reducible refine Ext.next ?_ (by with_reducible assumption)))).next hU
    obtain ⟨hc4, hf4⟩ := ucell4 hU
    have hs4 := U4.size
    have hr4 := R4.size
    have L4 := L3.upd U4 (fun hb => by have e : w.heap.size = r := hb; omega)
    have T4 := T3.next U4
    have hv4 := L4.lt
    have hne4 : w3.heap.size ≠ r := fun e => by omega
    clear hU
    clear hc4 hf4
    go_wp2_with fail
    refine (pick _ _ _ _ _ _ _ _ (R4.ext (by repeat (first | with_reducible assumption | with_reducible exact Ext.refl _ | with_reducible apply Ext.drewN | with_reducible apply Ext.drew | with_reducible apply Ext.alloc | with_reducible refine Ext.set ?_ (by first | (simp; done) | (simp; omega)) _ | with_reducible refine Ext.next ?_ (by with_reducible assumption)))) (by omega)).mono ?_
    rintro e w5 ⟨u5, rfl, hu0, hu1, R5, hU⟩
    have hlt5 := hu1 (by omega)
    clear hu1
    obtain ⟨n5, rfl⟩ : ∃ n : Nat, u5 = n := ⟨u5.toNat, by omega⟩
    have hb5 : n5 < 256 := by omega
    have U5 : Upd (fun b => b = r) w4 w5 := (Upd.of_ext (by repeat (first | with_reducible assumption | with_reducible exact Ext.refl _ | with_reducible apply Ext.drewN | with_reducible apply Ext.drew | with_reducible apply Ext.alloc | with_reducible refine Ext.set ?_ (by first | (simp; done) | (simp; omega)) _ | with_reducible refine Ext.next ?_ (by with_reducible assumption)))).next hU
    obtain ⟨hc5, hf5⟩ := ucell4 hU
    have hs5 := U5.size
    have hr5 := R5.size
    have L5 := L4.upd U5 (fun hb => by have e : w.heap.size = r := hb; omega)
    have T5 := T4.next U5
    have hv5 := L5.lt
    have hne5 : w4.heap.size ≠ r := fun e => by omega
    clear hU
    clear hc5 hf5
    go_wp2_with fail
    refine (pick _ _ _ _ _ _ _ _ (R5.ext (by repeat (first | with_reducible assumption | with_reducible exact Ext.refl _ | with_reducible apply Ext.drewN | with_reducible apply Ext.drew | with_reducible apply Ext.alloc | with_reducible refine Ext.set ?_ (by first | (simp; done) | (simp; omega)) _ | with_reducible refine Ext.next ?_ (by with_reducible assumption)))) (by omega)).mono ?_
    rintro e w6 ⟨u6, rfl, hu0, hu1, R6, hU⟩
    have hlt6 := hu1 (by omega)
    clear hu1
    obtain ⟨n6, rfl⟩ : ∃ n : Nat, u6 = n := ⟨u6.toNat, by omega⟩
    have hb6 : n6 < 6 := by omega
    have U6 : Upd (fun b => b = r) w5 w6 := (Upd.of_ext (by repeat (first | with_reducible assumption | with_reducible exact Ext.refl _ | with_reducible apply Ext.drewN | with_reducible apply Ext.drew | with_reducible apply Ext.alloc | with_reducible refine Ext.set ?_ (by first | (simp; done) | (simp; omega)) _ | with_reducible refine Ext.next ?_ (by with_reducible assumption)))).next hU
    obtain ⟨hc6, hf6⟩ := ucell4 hU
    have hs6 := U6.size
    have hr6 := R6.size
    have L6 := L5.upd U6 (fun hb => by have e : w.heap.size = r := hb; omega)
    have T6 := T5.next U6
    have hv6 := L6.lt
    have hne6 : w5.heap.size ≠ r := fun e => by omega
    clear hU
    have hcase : n6 = 0 ∨ n6 = 1 ∨ n6 = 2 ∨ n6 = 3 ∨ n6 = 4 ∨ n6 = 5 := by omega
    clear hlt6 hb6
    rcases hcase with rfl | rfl | rfl | rfl | rfl | rfl
    all_goals
      obtain ⟨⟨z0, z1, z2, z3⟩, hz⟩ := L6
      have y0 := hz 0
      have y1 := hz 1
      have y2 := hz 2
      have y3 := hz 3
      have HR := hid R6
      have HT := hid T6
      clear hz
      go_wp2
      have X := HT.out
      refine bodyPost_ret (by simp [results, Tryd.results48, go_sem, *]; try rfl) rfl ?_
      exact ⟨⟨_, _, _, _⟩, _, rfl, by omega, HR.out.upd2 (by repeat (first | with_reducible assumption | with_reducible exact Upd.refl _ _ | with_reducible apply Upd.drewN | with_reducible apply Upd.drew | with_reducible apply Upd.alloc | with_reducible refine Upd.set ?_ (by first | (left; simp; done) | (left; simp; omega) | (right; simp; done) | (right; simp; omega) | (right; omega)) _ | with_reducible refine Upd.next ?_ (Upd.of_ext (by with_reducible assumption)))), (by repeat (first | with_reducible assumption | with_reducible exact Upd.refl _ _ | with_reducible apply Upd.drewN | with_reducible apply Upd.drew | with_reducible apply Upd.alloc | with_reducible refine Upd.set ?_ (by first | (left; simp; done) | (left; simp; omega) | (right; simp; done) | (right; simp; omega) | (right; omega)) _ | with_reducible refine Upd.next ?_ (Upd.of_ext (by with_reducible assumption))))⟩
  · go_wp2_with fail
    refine (pick _ _ _ _ _ _ _ _ (R3.ext (by repeat (first | with_reducible assumption | with_reducible exact Ext.refl _ | with_reducible apply Ext.drewN | with_reducible apply Ext.drew | with_reducible apply Ext.alloc | with_reducible refine Ext.set ?_ (by first | (simp; done) | (simp; omega)) _ | with_reducible refine Ext.next ?_ (by with_reducible assumption)))) (by omega)).mono ?_
    rintro e w4 ⟨u4, rfl, hu0, hu1, R4, hU⟩
    have hlt4 := hu1 (by omega)
    clear hu1
    obtain ⟨n4, rfl⟩ : ∃ n : Nat, u4 = n := ⟨u4.toNat, by omega⟩
    have hb4 : n4 < 64 := by omega
    have U4 : Upd (fun b => b = r) w3 w4 := (Upd.of_ext (by repeat (first | with_reducible assumption | with_reducible exact Ext.refl _ | with_reducible apply Ext.drewN | with_reducible apply Ext.drew | with_reducible apply Ext.alloc | with_reducible refine Ext.set ?_ (by first | (simp; done) | (simp; omega)) _ | with_reducible refine Ext.next ?_ (by with_reducible assumption)))).next hU
    obtain ⟨hc4, hf4⟩ := ucell4 hU
    have hs4 := U4.size
    have hr4 := R4.size
    have L4 := L3.upd U4 (fun hb => by have e : w.heap.size = r := hb; omega)
    have T4 := T3.next U4
    have hv4 := L4.lt
    have hne4 : w3.heap.size ≠ r := fun e => by omega
    clear hU
    clear hc4 hf4
    go_wp2_with fail
    refine (pick _ _ _ _ _ _ _ _ (R4.ext (by repeat (first | with_reducible assumption | with_reducible exact Ext.refl _ | with_reducible apply Ext.drewN | with_reducible apply Ext.drew | with_reducible apply Ext.alloc | with_reducible refine Ext.set ?_ (by first | (simp; done) | (simp; omega)) _ | with_reducible refine Ext.next ?_ (by with_reducible assumption)))) (by omega)).mono ?_
    rintro e w5 ⟨u5, rfl, hu0, hu1, R5, hU⟩
    have hlt5 := hu1 (by omega)
    clear hu1
    obtain ⟨n5, rfl⟩ : ∃ n : Nat, u5 = n := ⟨u5.toNat, by omega⟩
    have hb5 : n5 < 256 := by omega
    have U5 : Upd (fun b => b = r) w4 w5 := (Upd.of_ext (by repeat (first | with_reducible assumption | with_reducible exact Ext.refl _ | with_reducible apply Ext.drewN | with_reducible apply Ext.drew | with_reducible apply Ext.alloc | with_reducible refine Ext.set ?_ (by first | (simp; done) | (simp; omega)) _ | with_reducible refine Ext.next ?_ (by with_reducible assumption)))).next hU
    obtain ⟨hc5, hf5⟩ := ucell4 hU
    have hs5 := U5.size
    have hr5 := R5.size
    have L5 := L4.upd U5 (fun hb => by have e : w.heap.size = r := hb; omega)
    have T5 := T4.next U5
    have hv5 := L5.lt
    have hne5 : w4.heap.size ≠ r := fun e => by omega
    clear hU
    clear hc5 hf5
    go_wp2_with fail
    refine (pick _ _ _ _ _ _ _ _ (R5.ext (by repeat (first | with_reducible assumption | with_reducible exact Ext.refl _ | with_reducible apply Ext.drewN | with_reducible apply Ext.drew | with_reducible apply Ext.alloc | with_reducible refine Ext.set ?_ (by first | (simp; done) | (simp; omega)) _ | with_reducible refine Ext.next ?_ (by with_reducible assumption)))) (by omega)).mono ?_
    rintro e w6 ⟨u6, rfl, hu0, hu1, R6, hU⟩
    have hlt6 := hu1 (by omega)
    clear hu1
    obtain ⟨n6, rfl⟩ : ∃ n : Nat, u6 = n := ⟨u6.toNat, by omega⟩
    have hb6 : n6 < 6 := by omega
    have U6 : Upd (fun b => b = r) w5 w6 := (Upd.of_ext (by repeat (first | with_reducible assumption | with_reducible exact Ext.refl _ | with_reducible apply Ext.drewN | with_reducible apply Ext.drew | with_reducible apply Ext.alloc | with_reducible refine Ext.set ?_ (by first | (simp; done) | (simp; omega)) _ | with_reducible refine Ext.next ?_ (by with_reducible assumption)))).next hU
    obtain ⟨hc6, hf6⟩ := ucell4 hU
    have hs6 := U6.size
    have hr6 := R6.size
    have L6 := L5.upd U6 (fun hb => by have e : w.heap.size = r := hb; omega)
    have T6 := T5.next U6
    have hv6 := L6.lt
    have hne6 : w5.heap.size ≠ r := fun e => by omega
    clear hU
    have hcase : n6 = 0 ∨ n6 = 1 ∨ n6 = 2 ∨ n6 = 3 ∨ n6 = 4 ∨ n6 = 5 := by omega
    clear hlt6 hb6
    rcases hcase with rfl | rfl | rfl | rfl | rfl | rfl
    all_goals
      obtain ⟨⟨z0, z1, z2, z3⟩, hz⟩ := L6
      have y0 := hz 0
      have y1 := hz 1
      have y2 := hz 2
      have y3 := hz 3
      have HR := hid R6
      have HT := hid T6
      clear hz
      go_wp2
      have X := HT.out
      refine bodyPost_ret (by simp [results, Tryd.results48, go_sem, *]; try rfl) rfl ?_
      exact ⟨⟨_, _, _, _⟩, _, rfl, by omega, HR.out.upd2 (by repeat (first | with_reducible assumption | with_reducible exact Upd.refl _ _ | with_reducible apply Upd.drewN | with_reducible apply Upd.drew | with_reducible apply Upd.alloc | with_reducible refine Upd.set ?_ (by first | (left; simp; done) | (left; simp; omega) | (right; simp; done) | (right; simp; omega) | (right; omega)) _ | with_reducible refine Upd.next ?_ (Upd.of_ext (by with_reducible assumption)))), (by repeat (first | with_reducible assumption | with_reducible exact Upd.refl _ _ | with_reducible apply Upd.drewN | with_reducible apply Upd.drew | with_reducible apply Upd.alloc | with_reducible refine Upd.set ?_ (by first | (left; simp; done) | (left; simp; omega) | (right; simp; done) | (right; simp; omega) | (right; omega)) _ | with_reducible refine Upd.next ?_ (Upd.of_ext (by with_reducible assumption))))⟩
  · obtain ⟨⟨z0, z1, z2, z3⟩, hz⟩ := L3
    have y0 := hz 0
    have y1 := hz 1
    have y2 := hz 2
    have y3 := hz 3
    have HR := hid R3
    have HT := hid T3
    clear hz
    go_wp2
    have X := HT.out
    refine bodyPost_ret (by simp [results, Tryd.results48, go_sem, *]; try rfl) rfl ?_
    exact ⟨⟨_, _, _, _⟩, _, rfl, by omega, HR.out.upd2 (by repeat (first | with_reducible assumption | with_reducible exact Upd.refl _ _ | with_reducible apply Upd.drewN | with_reducible apply Upd.drew | with_reducible apply Upd.alloc | with_reducible refine Upd.set ?_ (by first | (left; simp; done) | (left; simp; omega) | (right; simp; done) | (right; simp; omega) | (right; omega)) _ | with_reducible refine Upd.next ?_ (Upd.of_ext (by with_reducible assumption)))), (by repeat (first | with_reducible assumption | with_reducible exact Upd.refl _ _ | with_reducible apply Upd.drewN | with_reducible apply Upd.drew | with_reducible apply Upd.alloc | with_reducible refine Upd.set ?_ (by first | (left; simp; done) | (left; simp; omega) | (right; simp; done) | (right; simp; omega) | (right; omega)) _ | with_reducible refine Upd.next ?_ (Upd.of_ext (by with_reducible assumption))))⟩
  · go_wp2_with fail
    refine (pick _ _ _ _ _ _ _ _ (R3.ext (by repeat (first | with_reducible assumption | with_reducible exact Ext.refl _ | with_reducible apply Ext.drewN | with_reducible apply Ext.drew | with_reducible apply Ext.alloc | with_reducible refine Ext.set ?_ (by first | (simp; done) | (simp; omega)) _ | with_reducible refine Ext.next ?_ (by with_reducible assumption)))) (by omega)).mono ?_
    rintro e w4 ⟨u4, rfl, hu0, hu1, R4, hU⟩
    have hlt4 := hu1 (by omega)
    clear hu1
    obtain ⟨n4, rfl⟩ : ∃ n : Nat, u4 = n := ⟨u4.toNat, by omega⟩
    have hb4 : n4 < 5 := by omega
    have U4 : Upd (fun b => b = r) w3 w4 := (Upd.of_ext (by repeat (first | with_reducible assumption | with_reducible exact Ext.refl _ | with_reducible apply Ext.drewN | with_reducible apply Ext.drew | with_reducible apply Ext.alloc | with_reducible refine Ext.set ?_ (by first | (simp; done) | (simp; omega)) _ | with_reducible refine Ext.next ?_ (by with_reducible assumption)))).next hU
    obtain ⟨hc4, hf4⟩ := ucell4 hU
    have hs4 := U4.size
    have hr4 := R4.size
    have L4 := L3.upd U4 (fun hb => by have e : w.heap.size = r := hb; omega)
    have T4 := T3.next U4
    have hv4 := L4.lt
    have hne4 : w3.heap.size ≠ r := fun e => by omega
    clear hU
    clear hc4 hf4
    go_wp2_with fail
    refine (pick _ _ _ _ _ _ _ _ (R4.ext (by repeat (first | with_reducible assumption | with_reducible exact Ext.refl _ | with_reducible apply Ext.drewN | with_reducible apply Ext.drew | with_reducible apply Ext.alloc | with_reducible refine Ext.set ?_ (by first | (simp; done) | (simp; omega)) _ | with_reducible refine Ext.next ?_ (by with_reducible assumption)))) (by omega)).mono ?_
    rintro e w5 ⟨u5, rfl, hu0, hu1, R5, hU⟩
    have hlt5 := hu1 (by omega)
    clear hu1
    obtain ⟨n5, rfl⟩ : ∃ n : Nat, u5 = n := ⟨u5.toNat, by omega⟩
    have hb5 : n5 < 4 := by omega
    have U5 : Upd (fun b => b = r) w4 w5 := (Upd.of_ext (by repeat (first | with_reducible assumption | with_reducible exact Ext.refl _ | with_reducible apply Ext.drewN | with_reducible apply Ext.drew | with_reducible apply Ext.alloc | with_reducible refine Ext.set ?_ (by first | (simp; done) | (simp; omega)) _ | with_reducible refine Ext.next ?_ (by with_reducible assumption)))).next hU
    obtain ⟨hc5, hf5⟩ := ucell4 hU
    have hs5 := U5.size
    have hr5 := R5.size
    have L5 := L4.upd U5 (fun hb => by have e : w.heap.size = r := hb; omega)
    have T5 := T4.next U5
    have hv5 := L5.lt
    have hne5 : w4.heap.size ≠ r := fun e => by omega
    clear hU
    clear hc5 hf5
    obtain ⟨⟨z0, z1, z2, z3⟩, hz⟩ := L5
    have y0 := hz 0
    have y1 := hz 1
    have y2 := hz 2
    have y3 := hz 3
    have HR := hid R5
    have HT := hid T5
    clear hz
    go_wp2
    have X := HT.out
    refine bodyPost_ret (by simp [results, Tryd.results48, go_sem, *]; try rfl) rfl ?_
    exact ⟨⟨_, _, _, _⟩, _, rfl, by omega, HR.out.upd2 (by repeat (first | with_reducible assumption | with_reducible exact Upd.refl _ _ | with_reducible apply Upd.drewN | with_reducible apply Upd.drew | with_reducible apply Upd.alloc | with_reducible refine Upd.set ?_ (by first | (left; simp; done) | (left; simp; omega) | (right; simp; done) | (right; simp; omega) | (right; omega)) _ | with_reducible refine Upd.next ?_ (Upd.of_ext (by with_reducible assumption)))), (by repeat (first | with_reducible assumption | with_reducible exact Upd.refl _ _ | with_reducible apply Upd.drewN | with_reducible apply Upd.drew | with_reducible apply Upd.alloc | with_reducible refine Upd.set ?_ (by first | (left; simp; done) | (left; simp; omega) | (right; simp; done) | (right; simp; omega) | (right; omega)) _ | with_reducible refine Upd.next ?_ (Upd.of_ext (by with_reducible assumption))))⟩
  · go_wp2_with fail
    refine (pick _ _ _ _ _ _ _ _ (R3.ext (by repeat (first | with_reducible assumption | with_reducible exact Ext.refl _ | with_reducible apply Ext.drewN | with_reducible apply Ext.drew | with_reducible apply Ext.alloc | with_reducible refine Ext.set ?_ (by first | (simp; done) | (simp; omega)) _ | with_reducible refine Ext.next ?_ (by with_reducible assumption)))) (by omega)).mono ?_
    rintro e w4 ⟨u4, rfl, hu0, hu1, R4, hU⟩
    have hlt4 := hu1 (by omega)
    clear hu1
    obtain ⟨n4, rfl⟩ : ∃ n : Nat, u4 = n := ⟨u4.toNat, by omega⟩
    have hb4 : n4 < 5 := by omega
    have U4 : Upd (fun b => b = r) w3 w4 := (Upd.of_ext (by repeat (first | with_reducible assumption | with_reducible exact Ext.refl _ | with_reducible apply Ext.drewN | with_reducible apply Ext.drew | with_reducible apply Ext.alloc | with_reducible refine Ext.set ?_ (by first | (simp; done) | (simp; omega)) _ | with_reducible refine Ext.next ?_ (by with_reducible assumption)))).next hU
    obtain ⟨hc4, hf4⟩ := ucell4 hU
    have hs4 := U4.size
    have hr4 := R4.size
    have L4 := L3.upd U4 (fun hb => by have e : w.heap.size = r := hb; omega)
    have T4 := T3.next U4
    have hv4 := L4.lt
    have hne4 : w3.heap.size ≠ r := fun e => by omega
    clear hU
    clear hc4 hf4
    go_wp2_with fail
    refine (pick _ _ _ _ _ _ _ _ (R4.ext (by repeat (first | with_reducible assumption | with_reducible exact Ext.refl _ | with_reducible apply Ext.drewN | with_reducible apply Ext.drew | with_reducible apply Ext.alloc | with_reducible refine Ext.set ?_ (by first | (simp; done) | (simp; omega)) _ | with_reducible refine Ext.next ?_ (by with_reducible assumption)))) (by omega)).mono ?_
    rintro e w5 ⟨u5, rfl, hu0, hu1, R5, hU⟩
    have hlt5 := hu1 (by omega)
    clear hu1
    obtain ⟨n5, rfl⟩ : ∃ n : Nat, u5 = n := ⟨u5.toNat, by omega⟩
    have hb5 : n5 < 4 := by omega
    have U5 : Upd (fun b => b = r) w4 w5 := (Upd.of_ext (by repeat (first | with_reducible assumption | with_reducible exact Ext.refl _ | with_reducible apply Ext.drewN | with_reducible apply Ext.drew | with_reducible apply Ext.alloc | with_reducible refine Ext.set ?_ (by first | (simp; done) | (simp; omega)) _ | with_reducible refine Ext.next ?_ (by with_reducible assumption)))).next hU
    obtain ⟨hc5, hf5⟩ := ucell4 hU
    have hs5 := U5.size
    have hr5 := R5.size
    have L5 := L4.upd U5 (fun hb => by have e : w.heap.size = r := hb; omega)
    have T5 := T4.next U5
    have hv5 := L5.lt
    have hne5 : w4.heap.size ≠ r := fun e => by omega
    clear hU
    clear hc5 hf5
    obtain ⟨⟨z0, z1, z2, z3⟩, hz⟩ := L5
    have y0 := hz 0
    have y1 := hz 1
    have y2 := hz 2
    have y3 := hz 3
    have HR := hid R5
    have HT := hid T5
    clear hz
    go_wp2
    have X := HT.out
    refine bodyPost_ret (by simp [results, Tryd.results48, go_sem, *]; try rfl) rfl ?_
    exact ⟨⟨_, _, _, _⟩, _, rfl, by omega, HR.out.upd2 (by repeat (first | with_reducible assumption | with_reducible exact Upd.refl _ _ | with_reducible apply Upd.drewN | with_reducible apply Upd.drew | with_reducible apply Upd.alloc | with_reducible refine Upd.set ?_ (by first | (left; simp; done) | (left; simp; omega) | (right; simp; done) | (right; simp; omega) | (right; omega)) _ | with_reducible refine Upd.next ?_ (Upd.of_ext (by with_reducible assumption)))), (by repeat (first | with_reducible assumption | with_reducible exact Upd.refl _ _ | with_reducible apply Upd.drewN | with_reducible apply Upd.drew | with_reducible apply Upd.alloc | with_reducible refine Upd.set ?_ (by first | (left; simp; done) | (left; simp; omega) | (right; simp; done) | (right; simp; omega) | (right; omega)) _ | with_reducible refine Upd.next ?_ (Upd.of_ext (by with_reducible assumption))))⟩
  · go_wp2_with fail
    refine (pick _ _ _ _ _ _ _ _ (R3.ext (by repeat (first | with_reducible assumption | with_reducible exact Ext.refl _ | with_reducible apply Ext.drewN | with_reducible apply Ext.drew | with_reducible apply Ext.alloc | with_reducible refine Ext.set ?_ (by first | (simp; done) | (simp; omega)) _ | with_reducible refine Ext.next ?_ (by with_reducible assumption)))) (by omega)).mono ?_
    rintro e w4 ⟨u4, rfl, hu0, hu1, R4, hU⟩
    have hlt4 := hu1 (by omega)
    clear hu1
    obtain ⟨n4, rfl⟩ : ∃ n : Nat, u4 = n := ⟨u4.toNat, by omega⟩
    have hb4 : n4 < 5 := by omega
    have U4 : Upd (fun b => b = r) w3 w4 := (Upd.of_ext (by repeat (first | with_reducible assumption | with_reducible exact Ext.refl _ | with_reducible apply Ext.drewN | with_reducible apply Ext.drew | with_reducible apply Ext.alloc | with_reducible refine Ext.set ?_ (by first | (simp; done) | (simp; omega)) _ | with_reducible refine Ext.next ?_ (by with_reducible assumption)))).next hU
    obtain ⟨hc4, hf4⟩ := ucell4 hU
    have hs4 := U4.size
    have hr4 := R4.size
    have L4 := L3.upd U4 (fun hb => by have e : w.heap.size = r := hb; omega)
    have T4 := T3.next U4
    have hv4 := L4.lt
    have hne4 : w3.heap.size ≠ r := fun e => by omega
    clear hU
    clear hc4 hf4
    go_wp2_with fail
    refine (pick _ _ _ _ _ _ _ _ (R4.ext (by repeat (first | with_reducible assumption | with_reducible exact Ext.refl _ | with_reducible apply Ext.drewN | with_reducible apply Ext.drew | with_reducible apply Ext.alloc | with_reducible refine Ext.set ?_ (by first | (simp; done) | (simp; omega)) _ | with_reducible refine Ext.next ?_ (by with_reducible assumption)))) (by omega)).mono ?_
    rintro e w5 ⟨u5, rfl, hu0, hu1, R5, hU⟩
    have hlt5 := hu1 (by omega)
    clear hu1
    obtain ⟨n5, rfl⟩ : ∃ n : Nat, u5 = n := ⟨u5.toNat, by omega⟩
    have hb5 : n5 < 4 := by omega
    have U5 : Upd (fun b => b = r) w4 w5 := (Upd.of_ext (by repeat (first | with_reducible assumption | with_reducible exact Ext.refl _ | with_reducible apply Ext.drewN | with_reducible apply Ext.drew | with_reducible apply Ext.alloc | with_reducible refine Ext.set ?_ (by first | (simp; done) | (simp; omega)) _ | with_reducible refine Ext.next ?_ (by with_reducible assumption)))).next hU
    obtain ⟨hc5, hf5⟩ := ucell4 hU
    have hs5 := U5.size
    have hr5 := R5.size
    have L5 := L4.upd U5 (fun hb => by have e : w.heap.size = r := hb; omega)
    have T5 := T4.next U5
    have hv5 := L5.lt
    have hne5 : w4.heap.size ≠ r := fun e => by omega
    clear hU
    clear hc5 hf5
    obtain ⟨⟨z0, z1, z2, z3⟩, hz⟩ := L5
    have y0 := hz 0
    have y1 := hz 1
    have y2 := hz 2
    have y3 := hz 3
    have HR := hid R5
    have HT := hid T5
    clear hz
    go_wp2
    have X := HT.out
    refine bodyPost_ret (by simp [results, Tryd.results48, go_sem, *]; try rfl) rfl ?_
    exact ⟨⟨_, _, _, _⟩, _, rfl, by omega, HR.out.upd2 (by repeat (first | with_reducible assumption | with_reducible exact Upd.refl _ _ | with_reducible apply Upd.drewN | with_reducible apply Upd.drew | with_reducible apply Upd.alloc | with_reducible refine Upd.set ?_ (by first | (left; simp; done) | (left; simp; omega) | (right; simp; done) | (right; simp; omega) | (right; omega)) _ | with_reducible refine Upd.next ?_ (Upd.of_ext (by with_reducible assumption)))), (by repeat (first | with_reducible assumption | with_reducible exact Upd.refl _ _ | with_reducible apply Upd.drewN | with_reducible apply Upd.drew | with_reducible apply Upd.alloc | with_reducible refine Upd.set ?_ (by first | (left; simp; done) | (left; simp; omega) | (right; simp; done) | (right; simp; omega) | (right; omega)) _ | with_reducible refine Upd.next ?_ (Upd.of_ext (by with_reducible assumption))))⟩
  · go_wp2_with fail
    refine (pick _ _ _ _ _ _ _ _ (R3.ext (by repeat (first | with_reducible assumption | with_reducible exact Ext.refl _ | with_reducible apply Ext.drewN | with_reducible apply Ext.drew | with_reducible apply Ext.alloc | with_reducible refine Ext.set ?_ (by first | (simp; done) | (simp; omega)) _ | with_reducible refine Ext.next ?_ (by with_reducible assumption)))) (by omega)).mono ?_
    rintro e w4 ⟨u4, rfl, hu0, hu1, R4, hU⟩
    have hlt4 := hu1 (by omega)
    clear hu1
    obtain ⟨n4, rfl⟩ : ∃ n : Nat, u4 = n := ⟨u4.toNat, by omega⟩
    have hb4 : n4 < 16 := by omega
    have U4 : Upd (fun b => b = r) w3 w4 := (Upd.of_ext (by repeat (first | with_reducible assumption | with_reducible exact Ext.refl _ | with_reducible apply Ext.drewN | with_reducible apply Ext.drew | with_reducible apply Ext.alloc | with_reducible refine Ext.set ?_ (by first | (simp; done) | (simp; omega)) _ | with_reducible refine Ext.next ?_ (by with_reducible assumption)))).next hU
    obtain ⟨hc4, hf4⟩ := ucell4 hU
    have hs4 := U4.size
    have hr4 := R4.size
    have L4 := L3.upd U4 (fun hb => by have e : w.heap.size = r := hb; omega)
    have T4 := T3.next U4
    have hv4 := L4.lt
    have hne4 : w3.heap.size ≠ r := fun e => by omega
    clear hU
    clear hc4 hf4
    go_wp2_with fail
    refine (pick _ _ _ _ _ _ _ _ (R4.ext (by repeat (first | with_reducible assumption | with_reducible exact Ext.refl _ | with_reducible apply Ext.drewN | with_reducible apply Ext.drew | with_reducible apply Ext.alloc | with_reducible refine Ext.set ?_ (by first | (simp; done) | (simp; omega)) _ | with_reducible refine Ext.next ?_ (by with_reducible assumption)))) (by omega)).mono ?_
    rintro e w5 ⟨u5, rfl, hu0, hu1, R5, hU⟩
    have hlt5 := hu1 (by omega)
    clear hu1
    obtain ⟨n5, rfl⟩ : ∃ n : Nat, u5 = n := ⟨u5.toNat, by omega⟩
    have hb5 : n5 < 5 := by omega
    have U5 : Upd (fun b => b = r) w4 w5 := (Upd.of_ext (by repeat (first | with_reducible assumption | with_reducible exact Ext.refl _ | with_reducible apply Ext.drewN | with_reducible apply Ext.drew | with_reducible apply Ext.alloc | with_reducible refine Ext.set ?_ (by first | (simp; done) | (simp; omega)) _ | with_reducible refine Ext.next ?_ (by with_reducible assumption)))).next hU
    obtain ⟨hc5, hf5⟩ := ucell4 hU
    have hs5 := U5.size
    have hr5 := R5.size
    have L5 := L4.upd U5 (fun hb => by have e : w.heap.size = r := hb; omega)
    have T5 := T4.next U5
    have hv5 := L5.lt
    have hne5 : w4.heap.size ≠ r := fun e => by omega
    clear hU
    have hcase : n5 = 0 ∨ n5 = 1 ∨ n5 = 2 ∨ n5 = 3 ∨ n5 = 4 := by omega
    clear hlt5 hb5
    rcases hcase with rfl | rfl | rfl | rfl | rfl
    all_goals
      obtain ⟨⟨z0, z1, z2, z3⟩, hz⟩ := L5
      have y0 := hz 0
      have y1 := hz 1
      have y2 := hz 2
      have y3 := hz 3
      have HR := hid R5
      have HT := hid T5
      clear hz
      go_wp2
      have X := HT.out
      refine bodyPost_ret (by simp [results, Tryd.results48, go_sem, *]; try rfl) rfl ?_
      exact ⟨⟨_, _, _, _⟩, _, rfl, by omega, HR.out.upd2 (by repeat (first | with_reducible assumption | with_reducible exact Upd.refl _ _ | with_reducible apply Upd.drewN | with_reducible apply Upd.drew | with_reducible apply Upd.alloc | with_reducible refine Upd.set ?_ (by first | (left; simp; done) | (left; simp; omega) | (right; simp; done) | (right; simp; omega) | (right; omega)) _ | with_reducible refine Upd.next ?_ (Upd.of_ext (by with_reducible assumption)))), (by repeat (first | with_reducible assumption | with_reducible exact Upd.refl _ _ | with_reducible apply Upd.drewN | with_reducible apply Upd.drew | with_reducible apply Upd.alloc | with_reducible refine Upd.set ?_ (by first | (left; simp; done) | (left; simp; omega) | (right; simp; done) | (right; simp; omega) | (right; omega)) _ | with_reducible refine Upd.next ?_ (Upd.of_ext (by with_reducible assumption))))⟩
  · go_wp2_with fail
    refine (pick _ _ _ _ _ _ _ _ (R3.ext (by repeat (first | with_reducible assumption | with_reducible exact Ext.refl _ | with_reducible apply Ext.drewN | with_reducible apply Ext.drew | with_reducible apply Ext.alloc | with_reducible refine Ext.set ?_ (by first | (simp; done) | (simp; omega)) _ | with_reducible refine Ext.next ?_ (by with_reducible assumption)))) (by omega)).mono ?_
    rintro e w4 ⟨u4, rfl, hu0, hu1, R4, hU⟩
    have hlt4 := hu1 (by omega)
    clear hu1
    obtain ⟨n4, rfl⟩ : ∃ n : Nat, u4 = n := ⟨u4.toNat, by omega⟩
    have hb4 : n4 < 2 := by omega
    have U4 : Upd (fun b => b = r) w3 w4 := (Upd.of_ext (by repeat (first | with_reducible assumption | with_reducible exact Ext.refl _ | with_reducible apply Ext.drewN | with_reducible apply Ext.drew | with_reducible apply Ext.alloc | with_reducible refine Ext.set ?_ (by first | (simp; done) | (simp; omega)) _ | with_reducible refine Ext.next ?_ (by with_reducible assumption)))).next hU
    obtain ⟨hc4, hf4⟩ := ucell4 hU
    have hs4 := U4.size
    have hr4 := R4.size
    have L4 := L3.upd U4 (fun hb => by have e : w.heap.size = r := hb; omega)
    have T4 := T3.next U4
    have hv4 := L4.lt
    have hne4 : w3.heap.size ≠ r := fun e => by omega
    clear hU
    clear hc4 hf4
    go_wp2_with fail
    refine (pick _ _ _ _ _ _ _ _ (R4.ext (by repeat (first | with_reducible assumption | with_reducible exact Ext.refl _ | with_reducible apply Ext.drewN | with_reducible apply Ext.drew | with_reducible apply Ext.alloc | with_reducible refine Ext.set ?_ (by first | (simp; done) | (simp; omega)) _ | with_reducible refine Ext.next ?_ (by with_reducible assumption)))) (by omega)).mono ?_
    rintro e w5 ⟨u5, rfl, hu0, hu1, R5, hU⟩
    have hlt5 := hu1 (by omega)
    clear hu1
    obtain ⟨n5, rfl⟩ : ∃ n : Nat, u5 = n := ⟨u5.toNat, by omega⟩
    have hb5 : n5 < 64 := by omega
    have U5 : Upd (fun b => b = r) w4 w5 := (Upd.of_ext (by repeat (first | with_reducible assumption | with_reducible exact Ext.refl _ | with_reducible apply Ext.drewN | with_reducible apply Ext.drew | with_reducible apply Ext.alloc | with_reducible refine Ext.set ?_ (by first | (simp; done) | (simp; omega)) _ | with_reducible refine Ext.next ?_ (by with_reducible assumption)))).next hU
    obtain ⟨hc5, hf5⟩ := ucell4 hU
    have hs5 := U5.size
    have hr5 := R5.size
    have L5 := L4.upd U5 (fun hb => by have e : w.heap.size = r := hb; omega)
    have T5 := T4.next U5
    have hv5 := L5.lt
    have hne5 : w4.heap.size ≠ r := fun e => by omega
    clear hU
    clear hc5 hf5
    go_wp2_with fail
    refine (pick _ _ _ _ _ _ _ _ (R5.ext (by repeat (first | with_reducible assumption | with_reducible exact Ext.refl _ | with_reducible apply Ext.drewN | with_reducible apply Ext.drew | with_reducible apply Ext.alloc | with_reducible refine Ext.set ?_ (by first | (simp; done) | (simp; omega)) _ | with_reducible refine Ext.next ?_ (by with_reducible assumption)))) (by omega)).mono ?_
    rintro e w6 ⟨u6, rfl, hu0, hu1, R6, hU⟩
    have hlt6 := hu1 (by omega)
    clear hu1
    obtain ⟨n6, rfl⟩ : ∃ n : Nat, u6 = n := ⟨u6.toNat, by omega⟩
    have hb6 : n6 < 6 := by omega
    have U6 : Upd (fun b => b = r) w5 w6 := (Upd.of_ext (by repeat (first | with_reducible assumption | with_reducible exact Ext.refl _ | with_reducible apply Ext.drewN | with_reducible apply Ext.drew | with_reducible apply Ext.alloc | with_reducible refine Ext.set ?_ (by first | (simp; done) | (simp; omega)) _ | with_reducible refine Ext.next ?_ (by with_reducible assumption)))).next hU
    obtain ⟨hc6, hf6⟩ := ucell4 hU
    have hs6 := U6.size
    have hr6 := R6.size
    have L6 := L5.upd U6 (fun hb => by have e : w.heap.size = r := hb; omega)
    have T6 := T5.next U6
    have hv6 := L6.lt
    have hne6 : w5.heap.size ≠ r := fun e => by omega
    clear hU
    have hcase : n6 = 0 ∨ n6 = 1 ∨ n6 = 2 ∨ n6 = 3 ∨ n6 = 4 ∨ n6 = 5 := by omega
    clear hlt6 hb6
    rcases hcase with rfl | rfl | rfl | rfl | rfl | rfl
    all_goals
      obtain ⟨⟨z0, z1, z2, z3⟩, hz⟩ := L6
      have y0 := hz 0
      have y1 := hz 1
      have y2 := hz 2
      have y3 := hz 3
      have HR := hid R6
      have HT := hid T6
      clear hz
      go_wp2
      have X := HT.out
      refine bodyPost_ret (by simp [results, Tryd.results48, go_sem, *]; try rfl) rfl ?_
      exact ⟨⟨_, _, _, _⟩, _, rfl, by omega, HR.out.upd2 (by repeat (first | with_reducible assumption | with_reducible exact Upd.refl _ _ | with_reducible apply Upd.drewN | with_reducible apply Upd.drew | with_reducible apply Upd.alloc | with_reducible refine Upd.set ?_ (by first | (left; simp; done) | (left; simp; omega) | (right; simp; done) | (right; simp; omega) | (right; omega)) _ | with_reducible refine Upd.next ?_ (Upd.of_ext (by with_reducible assumption)))), (by repeat (first | with_reducible assumption | with_reducible exact Upd.refl _ _ | with_reducible apply Upd.drewN | with_reducible apply Upd.drew | with_reducible apply Upd.alloc | with_reducible refine Upd.set ?_ (by first | (left; simp; done) | (left; simp; omega) | (right; simp; done) | (right; simp; omega) | (right; omega)) _ | with_reducible refine Upd.next ?_ (Upd.of_ext (by with_reducible assumption))))⟩
  · go_wp2_with fail
    refine (pick _ _ _ _ _ _ _ _ (R3.ext (by repeat (first | with_reducible assumption | with_reducible exact Ext.refl _ | with_reducible apply Ext.drewN | with_reducible apply Ext.drew | with_reducible apply Ext.alloc | with_reducible refine Ext.set ?_ (by first | (simp; done) | (simp; omega)) _ | with_reducible refine Ext.next ?_ (by with_reducible assumption)))) (by omega)).mono ?_
    rintro e w4 ⟨u4, rfl, hu0, hu1, R4, hU⟩
    have hlt4 := hu1 (by omega)
    clear hu1
    obtain ⟨n4, rfl⟩ : ∃ n : Nat, u4 = n := ⟨u4.toNat, by omega⟩
    have hb4 : n4 < 2 := by omega
    have U4 : Upd (fun b => b = r) w3 w4 := (Upd.of_ext (by repeat (first | with_reducible assumption | with_reducible exact Ext.refl _ | with_reducible apply Ext.drewN | with_reducible apply Ext.drew | with_reducible apply Ext.alloc | with_reducible refine Ext.set ?_ (by first | (simp; done) | (simp; omega)) _ | with_reducible refine Ext.next ?_ (by with_reducible assumption)))).next hU
    obtain ⟨hc4, hf4⟩ := ucell4 hU
    have hs4 := U4.size
    have hr4 := R4.size
    have L4 := L3.upd U4 (fun hb => by have e : w.heap.size = r := hb; omega)
    have T4 := T3.next U4
    have hv4 := L4.lt
    have hne4 : w3.heap.size ≠ r := fun e => by omega
    clear hU
    clear hc4 hf4
    go_wp2_with fail
    refine (pick _ _ _ _ _ _ _ _ (R4.ext (by repeat (first | with_reducible assumption | with_reducible exact Ext.refl _ | with_reducible apply Ext.drewN | with_reducible apply Ext.drew | with_reducible apply Ext.alloc | with_reducible refine Ext.set ?_ (by first | (simp; done) | (simp; omega)) _ | with_reducible refine Ext.next ?_ (by with_reducible assumption)))) (by omega)).mono ?_
    rintro e w5 ⟨u5, rfl, hu0, hu1, R5, hU⟩
    have hlt5 := hu1 (by omega)
    clear hu1
    obtain ⟨n5, rfl⟩ : ∃ n : Nat, u5 = n := ⟨u5.toNat, by omega⟩
    have hb5 : n5 < 64 := by omega
    have U5 : Upd (fun b => b = r) w4 w5 := (Upd.of_ext (by repeat (first | with_reducible assumption | with_reducible exact Ext.refl _ | with_reducible apply Ext.drewN | with_reducible apply Ext.drew | with_reducible apply Ext.alloc | with_reducible refine Ext.set ?_ (by first | (simp; done) | (simp; omega)) _ | with_reducible refine Ext.next ?_ (by with_reducible assumption)))).next hU
    obtain ⟨hc5, hf5⟩ := ucell4 hU
    have hs5 := U5.size
    have hr5 := R5.size
    have L5 := L4.upd U5 (fun hb => by have e : w.heap.size = r := hb; omega)
    have T5 := T4.next U5
    have hv5 := L5.lt
    have hne5 : w4.heap.size ≠ r := fun e => by omega
    clear hU
    clear hc5 hf5
    go_wp2_with fail
    refine (pick _ _ _ _ _ _ _ _ (R5.ext (by repeat (first | with_reducible assumption | with_reducible exact Ext.refl _ | with_reducible apply Ext.drewN | with_reducible apply Ext.drew | with_reducible apply Ext.alloc | with_reducible refine Ext.set ?_ (by first | (simp; done) | (simp; omega)) _ | with_reducible refine Ext.next ?_ (by with_reducible assumption)))) (by omega)).mono ?_
    rintro e w6 ⟨u6, rfl, hu0, hu1, R6, hU⟩
    have hlt6 := hu1 (by omega)
    clear hu1
    obtain ⟨n6, rfl⟩ : ∃ n : Nat, u6 = n := ⟨u6.toNat, by omega⟩
    have hb6 : n6 < 6 := by omega
    have U6 : Upd (fun b => b = r) w5 w6 := (Upd.of_ext (by repeat (first | with_reducible assumption | with_reducible exact Ext.refl _ | with_reducible apply Ext.drewN | with_reducible apply Ext.drew | with_reducible apply Ext.alloc | with_reducible refine Ext.set ?_ (by first | (simp; done) | (simp; omega)) _ | with_reducible refine Ext.next ?_ (by with_reducible assumption)))).next hU
    obtain ⟨hc6, hf6⟩ := ucell4 hU
    have hs6 := U6.size
    have hr6 := R6.size
    have L6 := L5.upd U6 (fun hb => by have e : w.heap.size = r := hb; omega)
    have T6 := T5.next U6
    have hv6 := L6.lt
    have hne6 : w5.heap.size ≠ r := fun e => by omega
    clear hU
    have hcase : n6 = 0 ∨ n6 = 1 ∨ n6 = 2 ∨ n6 = 3 ∨ n6 = 4 ∨ n6 = 5 := by omega
    clear hlt6 hb6
    rcases hcase with rfl | rfl | rfl | rfl | rfl | rfl
    all_goals
      obtain ⟨⟨z0, z1, z2, z3⟩, hz⟩ := L6
      have y0 := hz 0
      have y1 := hz 1
      have y2 := hz 2
      have y3 := hz 3
      have HR := hid R6
      have HT := hid T6
      clear hz
      go_wp2
      have X := HT.out
      refine bodyPost_ret (by simp [results, Tryd.results48, go_sem, *]; try rfl) rfl ?_
      exact ⟨⟨_, _, _, _⟩, _, rfl, by omega, HR.out.upd2 (by repeat (first | with_reducible assumption | with_reducible exact Upd.refl _ _ | with_reducible apply Upd.drewN | with_reducible apply Upd.drew | with_reducible apply Upd.alloc | with_reducible refine Upd.set ?_ (by first | (left; simp; done) | (left; simp; omega) | (right; simp; done) | (right; simp; omega) | (right; omega)) _ | with_reducible refine Upd.next ?_ (Upd.of_ext (by with_reducible assumption)))), (by repeat (first | with_reducible assumption | with_reducible exact Upd.refl _ _ | with_reducible apply Upd.drewN | with_reducible apply Upd.drew | with_reducible apply Upd.alloc | with_reducible refine Upd.set ?_ (by first | (left; simp; done) | (left; simp; omega) | (right; simp; done) | (right; simp; omega) | (right; omega)) _ | with_reducible refine Upd.next ?_ (Upd.of_ext (by with_reducible assumption))))⟩
  · go_wp2_with fail
    refine (pick _ _ _ _ _ _ _ _ (R3.ext (by repeat (first | with_reducible assumption | with_reducible exact Ext.refl _ | with_reducible apply Ext.drewN | with_reducible apply Ext.drew | with_reducible apply Ext.alloc | with_reducible refine Ext.set ?_ (by first | (simp; done) | (simp; omega)) _ | with_reducible refine Ext.next ?_ (by with_reducible assumption)))) (by omega)).mono ?_
    rintro e w4 ⟨u4, rfl, hu0, hu1, R4, hU⟩
    have hlt4 := hu1 (by omega)
    clear hu1
    obtain ⟨n4, rfl⟩ : ∃ n : Nat, u4 = n := ⟨u4.toNat, by omega⟩
    have hb4 : n4 < 2 := by omega
    have U4 : Upd (fun b => b = r) w3 w4 := (Upd.of_ext (by repeat (first | with_reducible assumption | with_reducible exact Ext.refl _ | with_reducible apply Ext.drewN | with_reducible apply Ext.drew | with_reducible apply Ext.alloc | with_reducible refine Ext.set ?_ (by first | (simp; done) | (simp; omega)) _ | with_reducible refine Ext.next ?_ (by with_reducible assumption)))).next hU
    obtain ⟨hc4, hf4⟩ := ucell4 hU
    have hs4 := U4.size
    have hr4 := R4.size
    have L4 := L3.upd U4 (fun hb => by have e : w.heap.size = r := hb; omega)
    have T4 := T3.next U4
    have hv4 := L4.lt
    have hne4 : w3.heap.size ≠ r := fun e => by omega
    clear hU
    clear hc4 hf4
    go_wp2_with fail
    refine (pick _ _ _ _ _ _ _ _ (R4.ext (by repeat (first | with_reducible assumption | with_reducible exact Ext.refl _ | with_reducible apply Ext.drewN | with_reducible apply Ext.drew | with_reducible apply Ext.alloc | with_reducible refine Ext.set ?_ (by first | (simp; done) | (simp; omega)) _ | with_reducible refine Ext.next ?_ (by with_reducible assumption)))) (by omega)).mono ?_
    rintro e w5 ⟨u5, rfl, hu0, hu1, R5, hU⟩
    have hlt5 := hu1 (by omega)
    clear hu1
    obtain ⟨n5, rfl⟩ : ∃ n : Nat, u5 = n := ⟨u5.toNat, by omega⟩
    have hb5 : n5 < 20 := by omega
    have U5 : Upd (fun b => b = r) w4 w5 := (Upd.of_ext (by repeat (first | with_reducible assumption | with_reducible exact Ext.refl _ | with_reducible apply Ext.drewN | with_reducible apply Ext.drew | with_reducible apply Ext.alloc | with_reducible refine Ext.set ?_ (by first | (simp; done) | (simp; omega)) _ | with_reducible refine Ext.next ?_ (by with_reducible assumption)))).next hU
    obtain ⟨hc5, hf5⟩ := ucell4 hU
    have hs5 := U5.size
    have hr5 := R5.size
    have L5 := L4.upd U5 (fun hb => by have e : w.heap.size = r := hb; omega)
    have T5 := T4.next U5
    have hv5 := L5.lt
    have hne5 : w4.heap.size ≠ r := fun e => by omega
    clear hU
    clear hc5 hf5
    go_wp2_with fail
    refine (pick _ _ _ _ _ _ _ _ (R5.ext (by repeat (first | with_reducible assumption | with_reducible exact Ext.refl _ | with_reducible apply Ext.drewN | with_reducible apply Ext.drew | with_reducible apply Ext.alloc | with_reducible refine Ext.set ?_ (by first | (simp; done) | (simp; omega)) _ | with_reducible refine Ext.next ?_ (by with_reducible assumption)))) (by omega)).mono ?_
    rintro e w6 ⟨u6, rfl, hu0, hu1, R6, hU⟩
    have hlt6 := hu1 (by omega)
    clear hu1
    obtain ⟨n6, rfl⟩ : ∃ n : Nat, u6 = n := ⟨u6.toNat, by omega⟩
    have hb6 : n6 < 64 := by omega
    have U6 : Upd (fun b => b = r) w5 w6 := (Upd.of_ext (by repeat (first | with_reducible assumption | with_reducible exact Ext.refl _ | with_reducible apply Ext.drewN | with_reducible apply Ext.drew | with_reducible apply Ext.alloc | with_reducible refine Ext.set ?_ (by first | (simp; done) | (simp; omega)) _ | with_reducible refine Ext.next ?_ (by with_reducible assumption)))).next hU
    obtain ⟨hc6, hf6⟩ := ucell4 hU
    have hs6 := U6.size
    have hr6 := R6.size
    have L6 := L5.upd U6 (fun hb => by have e : w.heap.size = r := hb; omega)
    have T6 := T5.next U6
    have hv6 := L6.lt
    have hne6 : w5.heap.size ≠ r := fun e => by omega
    clear hU
    clear hc6 hf6
    go_wp2_with fail
    refine (pick _ _ _ _ _ _ _ _ (R6.ext (by repeat (first | with_reducible assumption | with_reducible exact Ext.refl _ | with_reducible apply Ext.drewN | with_reducible apply Ext.drew | with_reducible apply Ext.alloc | with_reducible refine Ext.set ?_ (by first | (simp; done) | (simp; omega)) _ | with_reducible refine Ext.next ?_ (by with_reducible assumption)))) (by omega)).mono ?_
    rintro e w7 ⟨u7, rfl, hu0, hu1, R7, hU⟩
    have hlt7 := hu1 (by omega)
    clear hu1
    obtain ⟨n7, rfl⟩ : ∃ n : Nat, u7 = n := ⟨u7.toNat, by omega⟩
    have hb7 : n7 < 3 := by omega
    have U7 : Upd (fun b => b = r) w6 w7 := (Upd.of_ext (by repeat (first | with_reducible assumption | with_reducible exact Ext.refl _ | with_reducible apply Ext.drewN | with_reducible apply Ext.drew | with_reducible apply Ext.alloc | with_reducible refine Ext.set ?_ (by first | (simp; done) | (simp; omega)) _ | with_reducible refine Ext.next ?_ (by with_reducible assumption)))).next hU
    obtain ⟨hc7, hf7⟩ := ucell4 hU
    have hs7 := U7.size
    have hr7 := R7.size
    have L7 := L6.upd U7 (fun hb => by have e : w.heap.size = r := hb; omega)
    have T7 := T6.next U7
    have hv7 := L7.lt
    have hne7 : w6.heap.size ≠ r := fun e => by omega
    clear hU
    have hcase : n7 = 0 ∨ n7 = 1 ∨ n7 = 2 := by omega
    clear hlt7 hb7
    rcases hcase with rfl | rfl | rfl
    all_goals
      obtain ⟨⟨z0, z1, z2, z3⟩, hz⟩ := L7
      have y0 := hz 0
      have y1 := hz 1
      have y2 := hz 2
      have y3 := hz 3
      have HR := hid R7
      have HT := hid T7
      clear hz
      go_wp2
      have X := HT.out
      refine bodyPost_ret (by simp [results, Tryd.results48, go_sem, *]; try rfl) rfl ?_
      exact ⟨⟨_, _, _, _⟩, _, rfl, by omega, HR.out.upd2 (by repeat (first | with_reducible assumption | with_reducible exact Upd.refl _ _ | with_reducible apply Upd.drewN | with_reducible apply Upd.drew | with_reducible apply Upd.alloc | with_reducible refine Upd.set ?_ (by first | (left; simp; done) | (left; simp; omega) | (right; simp; done) | (right; simp; omega) | (right; omega)) _ | with_reducible refine Upd.next ?_ (Upd.of_ext (by with_reducible assumption)))), (by repeat (first | with_reducible assumption | with_reducible exact Upd.refl _ _ | with_reducible apply Upd.drewN | with_reducible apply Upd.drew | with_reducible apply Upd.alloc | with_reducible refine Upd.set ?_ (by first | (left; simp; done) | (left; simp; omega) | (right; simp; done) | (right; simp; omega) | (right; omega)) _ | with_reducible refine Upd.next ?_ (Upd.of_ext (by with_reducible assumption))))⟩
  · go_wp2_with fail
    refine (pick _ _ _ _ _ _ _ _ (R3.ext (by repeat (first | with_reducible assumption | with_reducible exact Ext.refl _ | with_reducible apply Ext.drewN | with_reducible apply Ext.drew | with_reducible apply Ext.alloc | with_reducible refine Ext.set ?_ (by first | (simp; done) | (simp; omega)) _ | with_reducible refine Ext.next ?_ (by with_reducible assumption)))) (by omega)).mono ?_
    rintro e w4 ⟨u4, rfl, hu0, hu1, R4, hU⟩
    have hlt4 := hu1 (by omega)
    clear hu1
    obtain ⟨n4, rfl⟩ : ∃ n : Nat, u4 = n := ⟨u4.toNat, by omega⟩
    have hb4 : n4 < 2 := by omega
    have U4 : Upd (fun b => b = r) w3 w4 := (Upd.of_ext (by repeat (first | with_reducible assumption | with_reducible exact Ext.refl _ | with_reducible apply Ext.drewN | with_reducible apply Ext.drew | with_reducible apply Ext.alloc | with_reducible refine Ext.set ?_ (by first | (simp; done) | (simp; omega)) _ | with_reducible refine Ext.next ?_ (by with_reducible assumption)))).next hU
    obtain ⟨hc4, hf4⟩ := ucell4 hU
    have hs4 := U4.size
    have hr4 := R4.size
    have L4 := L3.upd U4 (fun hb => by have e : w.heap.size = r := hb; omega)
    have T4 := T3.next U4
    have hv4 := L4.lt
    have hne4 : w3.heap.size ≠ r := fun e => by omega
    clear hU
    clear hc4 hf4
    obtain ⟨⟨z0, z1, z2, z3⟩, hz⟩ := L4
    have y0 := hz 0
    have y1 := hz 1
    have y2 := hz 2
    have y3 := hz 3
    have HR := hid R4
    have HT := hid T4
    clear hz
    go_wp2
    have X := HT.out
    refine bodyPost_ret (by simp [results, Tryd.results48, go_sem, *]; try rfl) rfl ?_
    exact ⟨⟨_, _, _, _⟩, _, rfl, by omega, HR.out.upd2 (by repeat (first | with_reducible assumption | with_reducible exact Upd.refl _ _ | with_reducible apply Upd.drewN | with_reducible apply Upd.drew | with_reducible apply Upd.alloc | with_reducible refine Upd.set ?_ (by first | (left; simp; done) | (left; simp; omega) | (right; simp; done) | (right; simp; omega) | (right; omega)) _ | with_reducible refine Upd.next ?_ (Upd.of_ext (by with_reducible assumption)))), (by repeat (first | with_reducible assumption | with_reducible exact Upd.refl _ _ | with_reducible apply Upd.drewN | with_reducible apply Upd.drew | with_reducible apply Upd.alloc | with_reducible refine Upd.set ?_ (by first | (left; simp; done) | (left; simp; omega) | (right; simp; done) | (right; simp; omega) | (right; omega)) _ | with_reducible refine Upd.next ?_ (Upd.of_ext (by with_reducible assumption))))⟩
  · go_wp2_with fail
    refine (pick _ _ _ _ _ _ _ _ (R3.ext (by repeat (first | with_reducible assumption | with_reducible exact Ext.refl _ | with_reducible apply Ext.drewN | with_reducible apply Ext.drew | with_reducible apply Ext.alloc | with_reducible refine Ext.set ?_ (by first | (simp; done) | (simp; omega)) _ | with_reducible refine Ext.next ?_ (by with_reducible assumption)))) (by omega)).mono ?_
    rintro e w4 ⟨u4, rfl, hu0, hu1, R4, hU⟩
    have hlt4 := hu1 (by omega)
    clear hu1
    obtain ⟨n4, rfl⟩ : ∃ n : Nat, u4 = n := ⟨u4.toNat, by omega⟩
    have hb4 : n4 < 4 := by omega
    have U4 : Upd (fun b => b = r) w3 w4 := (Upd.of_ext (by repeat (first | with_reducible assumption | with_reducible exact Ext.refl _ | with_reducible apply Ext.drewN | with_reducible apply Ext.drew | with_reducible apply Ext.alloc | with_reducible refine Ext.set ?_ (by first | (simp; done) | (simp; omega)) _ | with_reducible refine Ext.next ?_ (by with_reducible assumption)))).next hU
    obtain ⟨hc4, hf4⟩ := ucell4 hU
    have hs4 := U4.size
    have hr4 := R4.size
    have L4 := L3.upd U4 (fun hb => by have e : w.heap.size = r := hb; omega)
    have T4 := T3.next U4
    have hv4 := L4.lt
    have hne4 : w3.heap.size ≠ r := fun e => by omega
    clear hU
    clear hc4 hf4
    obtain ⟨⟨z0, z1, z2, z3⟩, hz⟩ := L4
    have y0 := hz 0
    have y1 := hz 1
    have y2 := hz 2
    have y3 := hz 3
    have HR := hid R4
    have HT := hid T4
    clear hz
    go_wp2
    have X := HT.out
    refine bodyPost_ret (by simp [results, Tryd.results48, go_sem, *]; try rfl) rfl ?_
    exact ⟨⟨_, _, _, _⟩, _, rfl, by omega, HR.out.upd2 (by repeat (first | with_reducible assumption | with_reducible exact Upd.refl _ _ | with_reducible apply Upd.drewN | with_reducible apply Upd.drew | with_reducible apply Upd.alloc | with_reducible refine Upd.set ?_ (by first | (left; simp; done) | (left; simp; omega) | (right; simp; done) | (right; simp; omega) | (right; omega)) _ | with_reducible refine Upd.next ?_ (Upd.of_ext (by with_reducible assumption)))), (by repeat (first | with_reducible assumption | with_reducible exact Upd.refl _ _ | with_reducible apply Upd.drewN | with_reducible apply Upd.drew | with_reducible apply Upd.alloc | with_reducible refine Upd.set ?_ (by first | (left; simp; done) | (left; simp; omega) | (right; simp; done) | (right; simp; omega) | (right; omega)) _ | with_reducible refine Upd.next ?_ (Upd.of_ext (by with_reducible assumption))))⟩
  · obtain ⟨⟨z0, z1, z2, z3⟩, hz⟩ := L3
    have y0 := hz 0
    have y1 := hz 1
    have y2 := hz 2
    have y3 := hz 3
    have HR := hid R3
    have HT := hid T3
    clear hz
    go_wp2
    have X := HT.out
    refine bodyPost_ret (by simp [results, Tryd.results48, go_sem, *]; try rfl) rfl ?_
    exact ⟨⟨_, _, _, _⟩, _, rfl, by omega, HR.out.upd2 (by repeat (first | with_reducible assumption | with_reducible exact Upd.refl _ _ | with_reducible apply Upd.drewN | with_reducible apply Upd.drew | with_reducible apply Upd.alloc | with_reducible refine Upd.set ?_ (by first | (left; simp; done) | (left; simp; omega) | (right; simp; done) | (right; simp; omega) | (right; omega)) _ | with_reducible refine Upd.next ?_ (Upd.of_ext (by with_reducible assumption)))), (by repeat (first | with_reducible assumption | with_reducible exact Upd.refl _ _ | with_reducible apply Upd.drewN | with_reducible apply Upd.drew | with_reducible apply Upd.alloc | with_reducible refine Upd.set ?_ (by first | (left; simp; done) | (left; simp; omega) | (right; simp; done) | (right; simp; omega) | (right; omega)) _ | with_reducible refine Upd.next ?_ (Upd.of_ext (by with_reducible assumption))))⟩
  · obtain ⟨⟨z0, z1, z2, z3⟩, hz⟩ := L3
    have y0 := hz 0
    have y1 := hz 1
    have y2 := hz 2
    have y3 := hz 3
    have HR := hid R3
    have HT := hid T3
    clear hz
    go_wp2
    have X := HT.out
    refine bodyPost_ret (by simp [results, Tryd.results48, go_sem, *]; try rfl) rfl ?_
    exact ⟨⟨_, _, _, _⟩, _, rfl, by omega, HR.out.upd2 (by repeat (first | with_reducible assumption | with_reducible exact Upd.refl _ _ | with_reducible apply Upd.drewN | with_reducible apply Upd.drew | with_reducible apply Upd.alloc | with_reducible refine Upd.set ?_ (by first | (left; simp; done) | (left; simp; omega) | (right; simp; done) | (right; simp; omega) | (right; omega)) _ | with_reducible refine Upd.next ?_ (Upd.of_ext (by with_reducible assumption)))), (by repeat (first | with_reducible assumption | with_reducible exact Upd.refl _ _ | with_reducible apply Upd.drewN | with_reducible apply Upd.drew | with_reducible apply Upd.alloc | with_reducible refine Upd.set ?_ (by first | (left; simp; done) | (left; simp; omega) | (right; simp; done) | (right; simp; omega) | (right; omega)) _ | with_reducible refine Upd.next ?_ (Upd.of_ext (by with_reducible assumption))))⟩

set_option maxRecDepth 100000 in
set_option maxHeartbeats 8000000 in
theorem insOr20 (r : Nat) (A : Option Addr) (k m : Nat) (bs : List Int) (c : Nat) (n : Int) (w : World) (h : Rd w r A k m bs c) (hc : c + 80 < 1099511627776) :
    Calls Tryd.prog 45 #[.pointer (some ⟨r, 0, none⟩), .int .i64 n] w (RetIns w r A k m bs (c + 40)) := by
  have hrs := h.size
  go_enter Tryd.func45, Tryd.ntmps45
  go_wp2_with fail
  refine (ins20 _ _ _ _ _ _ _ (h.ext (by repeat (first | with_reducible assumption | with_reducible exact Ext.refl _ | with_reducible apply Ext.drewN | with_reducible apply Ext.drew | with_reducible apply Ext.alloc | with_reducible refine Ext.set ?_ (by first | (simp; done) | (simp; omega)) _ | with_reducible refine Ext.next ?_ (by with_reducible assumption)))) (by omega)).mono ?_
  rintro e w1 ⟨⟨xo, xd, xa, xk⟩, d1, rfl, hd1, R1, hU⟩
  have L1 : L4 w1 w.heap.size ⟨0, 0, 0, 0⟩ := L4.upd (w := w.alloc (.cells #[.int .i64 0, .int .i64 0, .int .i64 0, .int .i64 0] 25)) ⟨⟨by go_simp, by go_simp, by go_simp, by go_simp⟩, fun i => by go_simp⟩ hU (fun hb => by have e : w.heap.size = r := hb; omega)
  have T1 : Upd (fun b => b = r) w w1 := (Upd.of_ext (by repeat (first | with_reducible assumption | with_reducible exact Ext.refl _ | with_reducible apply Ext.drewN | with_reducible apply Ext.drew | with_reducible apply Ext.alloc | with_reducible refine Ext.set ?_ (by first | (simp; done) | (simp; omega)) _ | with_reducible refine Ext.next ?_ (by with_reducible assumption)))).next hU
  have hv1 := L1.lt
  have hr1 := R1.size
  clear hU
  go_wp2_with fail
  refine (odd _ _ _ _ _ _ _ _ (R1.ext (by repeat (first | with_reducible assumption | with_reducible exact Ext.refl _ | with_reducible apply Ext.drewN | with_reducible apply Ext.drew | with_reducible apply Ext.alloc | with_reducible refine Ext.set ?_ (by first | (simp; done) | (simp; omega)) _ | with_reducible refine Ext.next ?_ (by with_reducible assumption)))) (by omega)).mono ?_
  rintro e w2 ⟨v, rfl, R2, hU⟩
  have X2 : L4 w2 w1.heap.size ⟨xo, xd, xa, xk⟩ := L4.upd (w := w1.alloc (.cells #[.int .i64 xo, .int .i64 xd, .int .i64 xa, .int .i64 xk] 25)) ⟨⟨by go_simp, by go_simp, by go_simp, by go_simp⟩, fun i => by go_simp⟩ hU (fun hb => by have e : w1.heap.size = r := hb; omega)
  have U2 : Upd (fun b => b = r) w1 w2 := (Upd.of_ext (by repeat (first | with_reducible assumption | with_reducible exact Ext.refl _ | with_reducible apply Ext.drewN | with_reducible apply Ext.drew | with_reducible apply Ext.alloc | with_reducible refine Ext.set ?_ (by first | (simp; done) | (simp; omega)) _ | with_reducible refine Ext.next ?_ (by with_reducible assumption)))).next hU
  have L2 := L1.upd U2 (fun hb => by have e : w.heap.size = r := hb; omega)
  have T2 := T1.next U2
  have hv2 := L2.lt
  have hx2 := X2.lt
  have hr2 := R2.size
  clear hU
  cases v
  · obtain ⟨⟨z0, z1, z2, z3⟩, hz⟩ := L2
    obtain ⟨⟨x0, x1, x2, x3⟩, hx⟩ := X2
    have y0 := hz 0
    have y1 := hz 1
    have y2 := hz 2
    have y3 := hz 3
    have j0 := hx 0
    have j1 := hx 1
    have j2 := hx 2
    have j3 := hx 3
    have HR := hid R2
    have HT := hid T2
    clear hz hx
    go_wp2
    have X := HT.out
    refine bodyPost_ret (by simp [results, Tryd.results45, go_sem, *]; try rfl) rfl ?_
    exact ⟨⟨_, _, _, _⟩, _, rfl, by omega, HR.out.upd2 (by repeat (first | with_reducible assumption | with_reducible exact Upd.refl _ _ | with_reducible apply Upd.drewN | with_reducible apply Upd.drew | with_reducible apply Upd.alloc | with_reducible refine Upd.set ?_ (by first | (left; simp; done) | (left; simp; omega) | (right; simp; done) | (right; simp; omega) | (right; omega)) _ | with_reducible refine Upd.next ?_ (Upd.of_ext (by with_reducible assumption)))), (by repeat (first | with_reducible assumption | with_reducible exact Upd.refl _ _ | with_reducible apply Upd.drewN | with_reducible apply Upd.drew | with_reducible apply Upd.alloc | with_reducible refine Upd.set ?_ (by first | (left; simp; done) | (left; simp; omega) | (right; simp; done) | (right; simp; omega) | (right; omega)) _ | with_reducible refine Upd.next ?_ (Upd.of_ext (by with_reducible assumption))))⟩
  · go_wp2_with fail
    refine (pick _ _ _ _ _ _ _ _ (R2.ext (by repeat (first | with_reducible assumption | with_reducible exact Ext.refl _ | with_reducible apply Ext.drewN | with_reducible apply Ext.drew | with_reducible apply Ext.alloc | with_reducible refine Ext.set ?_ (by first | (simp; done) | (simp; omega)) _ | with_reducible refine Ext.next ?_ (by with_reducible assumption)))) (by omega)).mono ?_
    rintro e w3 ⟨u3, rfl, hu0, hu1, R3, hU⟩
    have hlt3 := hu1 (by omega)
    clear hu1
    obtain ⟨n3, rfl⟩ : ∃ n : Nat, u3 = n := ⟨u3.toNat, by omega⟩
    have hb3 : n3 < 4 := by omega
    have U3 : Upd (fun b => b = r) w2 w3 := (Upd.of_ext (by repeat (first | with_reducible assumption | with_reducible exact Ext.refl _ | with_reducible apply Ext.drewN | with_reducible apply Ext.drew | with_reducible apply Ext.alloc | with_reducible refine Ext.set ?_ (by first | (simp; done) | (simp; omega)) _ | with_reducible refine Ext.next ?_ (by with_reducible assumption)))).next hU
    obtain ⟨hc3, hf3⟩ := ucell4 hU
    have hs3 := U3.size
    have hr3 := R3.size
    have L3 := L2.upd U3 (fun hb => by have e : w.heap.size = r := hb; omega)
    have T3 := T2.next U3
    have hv3 := L3.lt
    have hne3 : w2.heap.size ≠ r := fun e => by omega
    clear hU
    have X3 := X2.upd U3 (fun hb => by have e : w1.heap.size = r := hb; omega)
    have hx3 := X3.lt
    clear hc3 hf3
    have hcase : n3 = 0 ∨ n3 = 1 ∨ n3 = 2 ∨ n3 = 3 := by omega
    clear hlt3 hb3
    rcases hcase with rfl | rfl | rfl | rfl
    · go_wp2_with fail
      refine (pick _ _ _ _ _ _ _ _ (R3.ext (by repeat (first | with_reducible assumption | with_reducible exact Ext.refl _ | with_reducible apply Ext.drewN | with_reducible apply Ext.drew | with_reducible apply Ext.alloc | with_reducible refine Ext.set ?_ (by first | (simp; done) | (simp; omega)) _ | with_reducible refine Ext.next ?_ (by with_reducible assumption)))) (by omega)).mono ?_
      rintro e w4 ⟨u4, rfl, hu0, hu1, R4, hU⟩
      have hlt4 := hu1 (by omega)
      clear hu1
      obtain ⟨n4, rfl⟩ : ∃ n : Nat, u4 = n := ⟨u4.toNat, by omega⟩
      have hb4 : n4 < 16 := by omega
      have U4 : Upd (fun b => b = r) w3 w4 := (Upd.of_ext (by repeat (first | with_reducible assumption | with_reducible exact Ext.refl _ | with_reducible apply Ext.drewN | with_reducible apply Ext.drew | with_reducible apply Ext.alloc | with_reducible refine Ext.set ?_ (by first | (simp; done) | (simp; omega)) _ | with_reducible refine Ext.next ?_ (by with_reducible assumption)))).next hU
      obtain ⟨hc4, hf4⟩ := ucell4 hU
      have hs4 := U4.size
      have hr4 := R4.size
      have L4 := L3.upd U4 (fun hb => by have e : w.heap.size = r := hb; omega)
      have T4 := T3.next U4
      have hv4 := L4.lt
      have hne4 : w3.heap.size ≠ r := fun e => by omega
      clear hU
      have X4 := X3.upd U4 (fun hb => by have e : w1.heap.size = r := hb; omega)
      have hx4 := X4.lt
      clear hc4 hf4
      go_wp2_with fail
      refine (pick _ _ _ _ _ _ _ _ (R4.ext (by repeat (first | with_reducible assumption | with_reducible exact Ext.refl _ | with_reducible apply Ext.drewN | with_reducible apply Ext.drew | with_reducible apply Ext.alloc | with_reducible refine Ext.set ?_ (by first | (simp; done) | (simp; omega)) _ | with_reducible refine Ext.next ?_ (by with_reducible assumption)))) (by omega)).mono ?_
      rintro e w5 ⟨u5, rfl, hu0, hu1, R5, hU⟩
      have hlt5 := hu1 (by omega)
      clear hu1
      obtain ⟨n5, rfl⟩ : ∃ n : Nat, u5 = n := ⟨u5.toNat, by omega⟩
      have hb5 : n5 < 3 := by omega
      have U5 : Upd (fun b => b = r) w4 w5 := (Upd.of_ext (by repeat (first | with_reducible assumption | with_reducible exact Ext.refl _ | with_reducible apply Ext.drewN | with_reducible apply Ext.drew | with_reducible apply Ext.alloc | with_reducible refine Ext.set ?_ (by first | (simp; done) | (simp; omega)) _ | with_reducible refine Ext.next ?_ (by with_reducible assumption)))).next hU
      obtain ⟨hc5, hf5⟩ := ucell4 hU
      have hs5 := U5.size
      have hr5 := R5.size
      have L5 := L4.upd U5 (fun hb => by have e : w.heap.size = r := hb; omega)
      have T5 := T4.next U5
      have hv5 := L5.lt
      have hne5 : w4.heap.size ≠ r := fun e => by omega
      clear hU
      have X5 := X4.upd U5 (fun hb => by have e : w1.heap.size = r := hb; omega)
      have hx5 := X5.lt
      have hcase : n5 = 0 ∨ n5 = 1 ∨ n5 = 2 := by omega
      clear hlt5 hb5
      rcases hcase with rfl | rfl | rfl
      all_goals
        obtain ⟨⟨z0, z1, z2, z3⟩, hz⟩ := L5
        obtain ⟨⟨x0, x1, x2, x3⟩, hx⟩ := X5
        have y0 := hz 0
        have y1 := hz 1
        have y2 := hz 2
        have y3 := hz 3
        have j0 := hx 0
        have j1 := hx 1
        have j2 := hx 2
        have j3 := hx 3
        have HR := hid R5
        have HT := hid T5
        clear hz hx
        go_wp2
        have X := HT.out
        refine bodyPost_ret (by simp [results, Tryd.results45, go_sem, *]; try rfl) rfl ?_
        exact ⟨⟨_, _, _, _⟩, _, rfl, by omega, HR.out.upd2 (by repeat (first | with_reducible assumption | with_reducible exact Upd.refl _ _ | with_reducible apply Upd.drewN | with_reducible apply Upd.drew | with_reducible apply Upd.alloc | with_reducible refine Upd.set ?_ (by first | (left; simp; done) | (left; simp; omega) | (right; simp; done) | (right; simp; omega) | (right; omega)) _ | with_reducible refine Upd.next ?_ (Upd.of_ext (by with_reducible assumption)))), (by repeat (first | with_reducible assumption | with_reducible exact Upd.refl _ _ | with_reducible apply Upd.drewN | with_reducible apply Upd.drew | with_reducible apply Upd.alloc | with_reducible refine Upd.set ?_ (by first | (left; simp; done) | (left; simp; omega) | (right; simp; done) | (right; simp; omega) | (right; omega)) _ | with_reducible refine Upd.next ?_ (Upd.of_ext (by with_reducible assumption))))⟩
    · go_wp2_with fail
      refine (pick _ _ _ _ _ _ _ _ (R3.ext (by repeat (first | with_reducible assumption | with_reducible exact Ext.refl _ | with_reducible apply Ext.drewN | with_reducible apply Ext.drew | with_reducible apply Ext.alloc | with_reducible refine Ext.set ?_ (by first | (simp; done) | (simp; omega)) _ | with_reducible refine Ext.next ?_ (by with_reducible assumption)))) (by omega)).mono ?_
      rintro e w4 ⟨u4, rfl, hu0, hu1, R4, hU⟩
      have hlt4 := hu1 (by omega)
      clear hu1
      obtain ⟨n4, rfl⟩ : ∃ n : Nat, u4 = n := ⟨u4.toNat, by omega⟩
      have hb4 : n4 < 3 := by omega
      have U4 : Upd (fun b => b = r) w3 w4 := (Upd.of_ext (by repeat (first | with_reducible assumption | with_reducible exact Ext.refl _ | with_reducible apply Ext.drewN | with_reducible apply Ext.drew | with_reducible apply Ext.alloc | with_reducible refine Ext.set ?_ (by first | (simp; done) | (simp; omega)) _ | with_reducible refine Ext.next ?_ (by with_reducible assumption)))).next hU
      obtain ⟨hc4, hf4⟩ := ucell4 hU
      have hs4 := U4.size
      have hr4 := R4.size
      have L4 := L3.upd U4 (fun hb => by have e : w.heap.size = r := hb; omega)
      have T4 := T3.next U4
      have hv4 := L4.lt
      have hne4 : w3.heap.size ≠ r := fun e => by omega
      clear hU
      have X4 := X3.upd U4 (fun hb => by have e : w1.heap.size = r := hb; omega)
      have hx4 := X4.lt
      have hcase : n4 = 0 ∨ n4 = 1 ∨ n4 = 2 := by omega
      clear hlt4 hb4
      rcases hcase with rfl | rfl | rfl
      all_goals
        obtain ⟨⟨z0, z1, z2, z3⟩, hz⟩ := L4
        obtain ⟨⟨x0, x1, x2, x3⟩, hx⟩ := X4
        have y0 := hz 0
        have y1 := hz 1
        have y2 := hz 2
        have y3 := hz 3
        have j0 := hx 0
        have j1 := hx 1
        have j2 := hx 2
        have j3 := hx 3
        have HR := hid R4
        have HT := hid T4
        clear hz hx
        go_wp2
        have X := HT.out
        refine bodyPost_ret (by simp [results, Tryd.results45, go_sem, *]; try rfl) rfl ?_
        exact ⟨⟨_, _, _, _⟩, _, rfl, by omega, HR.out.upd2 (by repeat (first | with_reducible assumption | with_reducible exact Upd.refl _ _ | with_reducible apply Upd.drewN | with_reducible apply Upd.drew | with_reducible apply Upd.alloc | with_reducible refine Upd.set ?_ (by first | (left; simp; done) | (left; simp; omega) | (right; simp; done) | (right; simp; omega) | (right; omega)) _ | with_reducible refine Upd.next ?_ (Upd.of_ext (by with_reducible assumption)))), (by repeat (first | with_reducible assumption | with_reducible exact Upd.refl _ _ | with_reducible apply Upd.drewN | with_reducible apply Upd.drew | with_reducible apply Upd.alloc | with_reducible refine Upd.set ?_ (by first | (left; simp; done) | (left; simp; omega) | (right; simp; done) | (right; simp; omega) | (right; omega)) _ | with_reducible refine Upd.next ?_ (Upd.of_ext (by with_reducible assumption))))⟩
    · go_wp2_with fail
      refine (pick _ _ _ _ _ _ _ _ (R3.ext (by repeat (first | with_reducible assumption | with_reducible exact Ext.refl _ | with_reducible apply Ext.drewN | with_reducible apply Ext.drew | with_reducible apply Ext.alloc | with_reducible refine Ext.set ?_ (by first | (simp; done) | (simp; omega)) _ | with_reducible refine Ext.next ?_ (by with_reducible assumption)))) (by omega)).mono ?_
      rintro e w4 ⟨u4, rfl, hu0, hu1, R4, hU⟩
      have hlt4 := hu1 (by omega)
      clear hu1
      obtain ⟨n4, rfl⟩ : ∃ n : Nat, u4 = n := ⟨u4.toNat, by omega⟩
      have hb4 : n4 < 3 := by omega
      have U4 : Upd (fun b => b = r) w3 w4 := (Upd.of_ext (by repeat (first | with_reducible assumption | with_reducible exact Ext.refl _ | with_reducible apply Ext.drewN | with_reducible apply Ext.drew | with_reducible apply Ext.alloc | with_reducible refine Ext.set ?_ (by first | (simp; done) | (simp; omega)) _ | with_reducible refine Ext.next ?_ (by with_reducible assumption)))).next hU
      obtain ⟨hc4, hf4⟩ := ucell4 hU
      have hs4 := U4.size
      have hr4 := R4.size
      have L4 := L3.upd U4 (fun hb => by have e : w.heap.size = r := hb; omega)
      have T4 := T3.next U4
      have hv4 := L4.lt
      have hne4 : w3.heap.size ≠ r := fun e => by omega
      clear hU
      have X4 := X3.upd U4 (fun hb => by have e : w1.heap.size = r := hb; omega)
      have hx4 := X4.lt
      have hcase : n4 = 0 ∨ n4 = 1 ∨ n4 = 2 := by omega
      clear hlt4 hb4
      rcases hcase with rfl | rfl | rfl
      all_goals
        obtain ⟨⟨z0, z1, z2, z3⟩, hz⟩ := L4
        obtain ⟨⟨x0, x1, x2, x3⟩, hx⟩ := X4
        have y0 := hz 0
        have y1 := hz 1
        have y2 := hz 2
        have y3 := hz 3
        have j0 := hx 0
        have j1 := hx 1
        have j2 := hx 2
        have j3 := hx 3
        have HR := hid R4
        have HT := hid T4
        clear hz hx
        go_wp2
        have X := HT.out
        refine bodyPost_ret (by simp [results, Tryd.results45, go_sem, *]; try rfl) rfl ?_
        exact ⟨⟨_, _, _, _⟩, _, rfl, by omega, HR.out.upd2 (by repeat (first | with_reducible assumption | with_reducible exact Upd.refl _ _ | with_reducible apply Upd.drewN | with_reducible apply Upd.drew | with_reducible apply Upd.alloc | with_reducible refine Upd.set ?_ (by first | (left; simp; done) | (left; simp; omega) | (right; simp; done) | (right; simp; omega) | (right; omega)) _ | with_reducible refine Upd.next ?_ (Upd.of_ext (by with_reducible assumption)))), (by repeat (first | with_reducible assumption | with_reducible exact Upd.refl _ _ | with_reducible apply Upd.drewN | with_reducible apply Upd.drew | with_reducible apply Upd.alloc | with_reducible refine Upd.set ?_ (by first | (left; simp; done) | (left; simp; omega) | (right; simp; done) | (right; simp; omega) | (right; omega)) _ | with_reducible refine Upd.next ?_ (Upd.of_ext (by with_reducible assumption))))⟩
    · go_wp2_with fail
      refine (pick _ _ _ _ _ _ _ _ (R3.ext (by repeat (first | with_reducible assumption | with_reducible exact Ext.refl _ | with_reducible apply Ext.drewN | with_reducible apply Ext.drew | with_reducible apply Ext.alloc | with_reducible refine Ext.set ?_ (by first | (simp; done) | (simp; omega)) _ | with_reducible refine Ext.next ?_ (by with_reducible assumption)))) (by omega)).mono ?_
      rintro e w4 ⟨u4, rfl, hu0, hu1, R4, hU⟩
      have hlt4 := hu1 (by omega)
      clear hu1
      obtain ⟨n4, rfl⟩ : ∃ n : Nat, u4 = n := ⟨u4.toNat, by omega⟩
      have hb4 : n4 < 4 := by omega
      have U4 : Upd (fun b => b = r) w3 w4 := (Upd.of_ext (by repeat (first | with_reducible assumption | with_reducible exact Ext.refl _ | with_reducible apply Ext.drewN | with_reducible apply Ext.drew | with_reducible apply Ext.alloc | with_reducible refine Ext.set ?_ (by first | (simp; done) | (simp; omega)) _ | with_reducible refine Ext.next ?_ (by with_reducible assumption)))).next hU
      obtain ⟨hc4, hf4⟩ := ucell4 hU
      have hs4 := U4.size
      have hr4 := R4.size
      have L4 := L3.upd U4 (fun hb => by have e : w.heap.size = r := hb; omega)
      have T4 := T3.next U4
      have hv4 := L4.lt
      have hne4 : w3.heap.size ≠ r := fun e => by omega
      clear hU
      have X4 := X3.upd U4 (fun hb => by have e : w1.heap.size = r := hb; omega)
      have hx4 := X4.lt
      have hcase : n4 = 0 ∨ n4 = 1 ∨ n4 = 2 ∨ n4 = 3 := by omega
      clear hlt4 hb4
      rcases hcase with rfl | rfl | rfl | rfl
      all_goals
        obtain ⟨⟨z0, z1, z2, z3⟩, hz⟩ := L4
        obtain ⟨⟨x0, x1, x2, x3⟩, hx⟩ := X4
        have y0 := hz 0
        have y1 := hz 1
        have y2 := hz 2
        have y3 := hz 3
        have j0 := hx 0
        have j1 := hx 1
        have j2 := hx 2
        have j3 := hx 3
        have HR := hid R4
        have HT := hid T4
        clear hz hx
        go_wp2
        have X := HT.out
        refine bodyPost_ret (by simp [results, Tryd.results45, go_sem, *]; try rfl) rfl ?_
        exact ⟨⟨_, _, _, _⟩, _, rfl, by omega, HR.out.upd2 (by repeat (first | with_reducible assumption | with_reducible exact Upd.refl _ _ | with_reducible apply Upd.drewN | with_reducible apply Upd.drew | with_reducible apply Upd.alloc | with_reducible refine Upd.set ?_ (by first | (left; simp; done) | (left; simp; omega) | (right; simp; done) | (right; simp; omega) | (right; omega)) _ | with_reducible refine Upd.next ?_ (Upd.of_ext (by with_reducible assumption)))), (by repeat (first | with_reducible assumption | with_reducible exact Upd.refl _ _ | with_reducible apply Upd.drewN | with_reducible apply Upd.drew | with_reducible apply Upd.alloc | with_reducible refine Upd.set ?_ (by first | (left; simp; done) | (left; simp; omega) | (right; simp; done) | (right; simp; omega) | (right; omega)) _ | with_reducible refine Upd.next ?_ (Upd.of_ext (by with_reducible assumption))))⟩

theorem drawInsPut (A : Option Addr) (k : Nat) (bs : List Int) (w : World) (h : AB w A bs) (hn : bs.length ≤ 9223372036854775807) (hk : bs.length ≤ k) :
    Calls Tryd.prog 29 #[.slice A bs.length k] w fun e w' => ∃ x : In4, e = .returned (.agg #[.int .i64 x.o, .int .i64 x.d, .int .i64 x.a, .int .i64 x.k]) ∧ Ext w w' := by
  go_enter Tryd.func29, Tryd.ntmps29
  go_wp2_with fail
  refine (open_ _ _ _ _ (h.ext (by repeat (first | with_reducible assumption | with_reducible exact Ext.refl _ | with_reducible apply Ext.drewN | with_reducible apply Ext.drew | with_reducible apply Ext.alloc | with_reducible refine Ext.set ?_ (by first | (simp; done) | (simp; omega)) _ | with_reducible refine Ext.next ?_ (by with_reducible assumption)))) hn hk).mono ?_
  rintro e w1 ⟨r, A', k', m, rfl, hR, hr, hw1⟩
  have L1 : L4 w1 w.heap.size ⟨0, 0, 0, 0⟩ := L4.ext (w := w.alloc (.cells #[.int .i64 0, .int .i64 0, .int .i64 0, .int .i64 0] 25)) ⟨⟨by go_simp, by go_simp, by go_simp, by go_simp⟩, fun i => by go_simp⟩ hw1
  have hr' : w.heap.size + 1 ≤ r := by simpa using hr
  have E1 : Ext w w1 := (by repeat (first | with_reducible assumption | with_reducible exact Ext.refl _ | with_reducible apply Ext.drewN | with_reducible apply Ext.drew | with_reducible apply Ext.alloc | with_reducible refine Ext.set ?_ (by first | (simp; done) | (simp; omega)) _ | with_reducible refine Ext.next ?_ (by with_reducible assumption)))
  have hrs := hR.size
  clear hr hw1
  go_wp2_with fail
  refine (insOr20 _ _ _ _ _ _ _ _ hR (by omega)).mono ?_
  rintro e w2 ⟨⟨xo, xd, xa, xk⟩, d2, rfl, hd2, R2, U2⟩
  have L2 := L1.upd U2 (fun hb => by have e : w.heap.size = r := hb; omega)
  have hvl := L2.lt
  have HE : Hid (Ext w w2) := hid (((Upd.of_ext E1).next U2).ext fun b hb => by have e : b = r := hb; omega)
  obtain ⟨⟨z0, z1, z2, z3⟩, hz⟩ := L2
  have y0 := hz 0
  have y1 := hz 1
  have y2 := hz 2
  have y3 := hz 3
  clear U2 L1 E1 hz
  go_wp2
  have X := HE.out
  refine bodyPost_ret (by simp [results, Tryd.results29, go_sem, *]; try rfl) rfl ?_
  exact ⟨⟨xo, xd, xa, xk⟩, rfl, (by repeat (first | with_reducible assumption | with_reducible exact Ext.refl _ | with_reducible apply Ext.drewN | with_reducible apply Ext.drew | with_reducible apply Ext.alloc | with_reducible refine Ext.set ?_ (by first | (simp; done) | (simp; omega)) _ | with_reducible refine Ext.next ?_ (by with_reducible assumption)))⟩

theorem drawInsTake (A : Option Addr) (k : Nat) (bs : List Int) (w : World) (h : AB w A bs) (hn : bs.length ≤ 9223372036854775807) (hk : bs.length ≤ k) :
    Calls Tryd.prog 30 #[.slice A bs.length k] w fun e w' => ∃ x : Int, e = .returned (.int .i64 x) ∧ I64 x ∧ Ext w w' := by
  go_enter Tryd.func30, Tryd.ntmps30
  go_wp2_with fail
  refine (open_ _ _ _ _ (h.ext (by repeat (first | with_reducible assumption | with_reducible exact Ext.refl _ | with_reducible apply Ext.drewN | with_reducible apply Ext.drew | with_reducible apply Ext.alloc | with_reducible refine Ext.set ?_ (by first | (simp; done) | (simp; omega)) _ | with_reducible refine Ext.next ?_ (by with_reducible assumption)))) hn hk).mono ?_
  rintro e w1 ⟨r, A', k', m, rfl, hR, hr, hw1⟩
  have E1 : Ext w w1 := (by repeat (first | with_reducible assumption | with_reducible exact Ext.refl _ | with_reducible apply Ext.drewN | with_reducible apply Ext.drew | with_reducible apply Ext.alloc | with_reducible refine Ext.set ?_ (by first | (simp; done) | (simp; omega)) _ | with_reducible refine Ext.next ?_ (by with_reducible assumption)))
  have hrs := hR.size
  clear hw1
  go_wp2_with fail
  refine (pick _ _ _ _ _ _ _ _ hR (by omega)).mono ?_
  rintro e w2 ⟨u, rfl, hu0, hu1, R2, U2⟩
  cases hu : u == 0
  · go_wp2_with fail
    refine (wordOr _ _ _ _ _ _ _ _ R2 (by omega)).mono ?_
    rintro e w3 ⟨v, d3, rfl, hv, hd3, R3, U3⟩
    have HE : Hid (Ext w w3) := hid ((((Upd.of_ext E1).next U2).next U3).ext fun b hb => by have e : b = r := hb; omega)
    clear U2 U3 hu
    go_wp2
    go_ret
    exact ⟨_, rfl, hv, HE.out⟩
  · go_wp2_with fail
    refine (ins20 _ _ _ _ _ _ _ R2 (by omega)).mono ?_
    rintro e w3 ⟨⟨xo, xd, xa, xk⟩, d3, rfl, hd3, R3, U3⟩
    go_wp2_with fail
    refine (specInsPut _ _ _ _ _).mono ?_
    rintro e w4 ⟨rfl, hw4⟩
    have HE : Hid (Ext w w4) := hid (((((Upd.of_ext E1).next U2).next U3).next (.of_ext hw4)).ext fun b hb => by have e : b = r := hb; omega)
    have HI : Hid (I64 (insPut xo xd xa xk)) := hid (by
      unfold insPut I64
      split
      · next h => obtain ⟨⟨h0, h1⟩, ⟨h2, h3⟩, ⟨h4, h5⟩, h6, h7⟩ := insOk_bounds h; omega
      · omega)
    clear U2 U3 hu
    go_wp2
    go_ret
    exact ⟨_, rfl, HI.out, HE.out⟩

/-! ### plain laws -/
theorem take_put {o d a k : Int} (h : insOk o d a k = true) : takeOk (insPut o d a k) = true ∧ tk (insPut o d a k) = ⟨o, d, a, k⟩ := by
  have hp : insPut o d a k = o * 4096 + d * 1024 + a * 256 + k := by unfold insPut; rw [h]; rfl
  obtain ⟨⟨h0, h1⟩, ⟨h2, h3⟩, ⟨h4, h5⟩, h6, h7⟩ := insOk_bounds h
  have e0 : insPut o d a k / 4096 = o := by rw [hp]; omega
  have e1 : insPut o d a k / 1024 % 4 = d := by rw [hp]; omega
  have e2 : insPut o d a k / 256 % 4 = a := by rw [hp]; omega
  have e3 : insPut o d a k % 256 = k := by rw [hp]; omega
  refine ⟨?_, ?_⟩
  · unfold takeOk
    rw [e0, e1, e2, e3, h, Bool.and_true, hp]
    simp [wrdOk]
    omega
  · unfold tk
    rw [e0, e1, e2, e3]
theorem put_take {w : Int} (h : takeOk w = true) : insOk (tk w).o (tk w).d (tk w).a (tk w).k = true ∧ insPut (tk w).o (tk w).d (tk w).a (tk w).k = w := by
  unfold takeOk at h
  rw [Bool.and_eq_true] at h
  obtain ⟨h1, h2⟩ := h
  have h3 : insOk (tk w).o (tk w).d (tk w).a (tk w).k = true := h2
  refine ⟨h3, ?_⟩
  unfold insPut
  rw [h3]
  simp [wrdOk] at h1
  show w / 4096 * 4096 + w / 1024 % 4 * 1024 + w / 256 % 4 * 256 + w % 256 = w
  omega
end Go.Proofs.YtabbjnamlkphmaaDoor
