/- The reference's draw of a sum, one in so many with something wrong. Conditions: fewer than 2^40 bytes drawn. -/
import Derived.Test.YtcgelcaepkakaaaPE
namespace Go.Proofs.Ytcgelcaepkakaaa
open Go Go.RowKit
set_option linter.unusedVariables false
set_option linter.unusedSimpArgs false

set_option maxRecDepth 100000 in
set_option maxHeartbeats 4000000 in
theorem polyOr21 (r : Nat) (A : Option Addr) (k m : Nat) (bs : List Int) (c : Nat) (n : Int) (w : World) (h : Rd w r A k m bs c) (hc : c + 400 < 1099511627776) :
    Calls Try.prog 56 #[.pointer (some ⟨r, 0, none⟩), .int .i64 n] w (RetD2 73 3 w r A k m bs (c + 110)) := by
  have hrs := h.size
  go_enter Try.func56, Try.ntmps56
  go_wp2_with fail
  refine (poly21 _ _ _ _ _ _ _ _ (h.ext (by repeat (first | with_reducible assumption | with_reducible exact Ext.refl _ | with_reducible apply Ext.drewN | with_reducible apply Ext.drew | with_reducible apply Ext.alloc | with_reducible refine Ext.set ?_ (by first | (simp; done) | (simp; omega)) _ | with_reducible refine Ext.next ?_ (by with_reducible assumption)))) (by omega)).mono ?_
  rintro e w1 ⟨A1, k1, ms1, d1, rfl, G1, hd1, R1, hU1⟩
  have V1 : Var w1 w.heap.size (.slice none 0 0) := ⟨(hU1.cell (p := ⟨w.heap.size, 0, none⟩) (by simp) (by simp only; omega)).trans (by go_simp), (hU1.frozen (p := ⟨w.heap.size, 0, none⟩) (by simp) (by simp only; omega)).trans (by go_simp)⟩
  have U1 : Upd (fun b => b = r) w w1 := (Upd.of_ext (by repeat (first | with_reducible assumption | with_reducible exact Ext.refl _ | with_reducible apply Ext.drewN | with_reducible apply Ext.drew | with_reducible apply Ext.alloc | with_reducible refine Ext.set ?_ (by first | (simp; done) | (simp; omega)) _ | with_reducible refine Ext.next ?_ (by with_reducible assumption)))).next hU1
  have G1' := G1.base (lo' := w.heap.size + 1) (by simp)
  have hf1 : ∀ b, atB A1 b → w.heap.size + 1 ≤ b ∧ b < w1.heap.size := fun b hb => own_atB G1'.lm.1 hb
  have hv1 := V1.lt
  have hr1 := R1.size
  have HF := hid hf1
  have HMX : Hid (∀ x ∈ ms1, x.xs ≠ [] → ∀ b, atB x.A b → b ≠ w1.heap.size) := hid fun x hx hne b hb => by have := G1'.lt_ hx hne hb; omega
  have hl1 := G1'.sz.1
  clear hU1 G1 hf1
  go_wp2_with fail
  refine (odd _ _ _ _ _ _ _ _ (R1.ext (by repeat (first | with_reducible assumption | with_reducible exact Ext.refl _ | with_reducible apply Ext.drewN | with_reducible apply Ext.drew | with_reducible apply Ext.alloc | with_reducible refine Ext.set ?_ (by first | (simp; done) | (simp; omega)) _ | with_reducible refine Ext.next ?_ (by with_reducible assumption)))) (by omega)).mono ?_
  rintro e w2 ⟨v, rfl, R2, hU2⟩
  have P2 : Var w2 w1.heap.size (.slice A1 ms1.length k1) := ⟨(hU2.cell (p := ⟨w1.heap.size, 0, none⟩) (by simp) (by simp only; omega)).trans (by go_simp), (hU2.frozen (p := ⟨w1.heap.size, 0, none⟩) (by simp) (by simp only; omega)).trans (by go_simp)⟩
  have U12 : Upd (fun b => b = r) w1 w2 := (Upd.of_ext (by repeat (first | with_reducible assumption | with_reducible exact Ext.refl _ | with_reducible apply Ext.drewN | with_reducible apply Ext.drew | with_reducible apply Ext.alloc | with_reducible refine Ext.set ?_ (by first | (simp; done) | (simp; omega)) _ | with_reducible refine Ext.next ?_ (by with_reducible assumption)))).next hU2
  have V2 := V1.upd U12 (fun hb => by have e : w.heap.size = r := hb; omega)
  have G2 := G1'.upd U12 (fun b hb => by have e : b = r := hb; omega)
  have U2 := U1.next U12
  clear hU2 U12 V1 G1' U1 R1
  cases v
  · obtain ⟨p0, p1⟩ := P2
    obtain ⟨v0, v1⟩ := V2
    have hpl := World.block_lt_of_cell? _ _ p0
    have hvl := World.block_lt_of_cell? _ _ v0
    simp only at hpl hvl
    have HG := hid G2
    have HR := hid R2
    have HU := hid U2
    clear G2 R2 U2
    go_wp2
    have X := HU.out
    refine bodyPost_ret (v := .agg #[.slice A1 ms1.length k1]) (by simp [results, Try.results56, go_sem, *]) rfl ⟨A1, k1, ms1, (d1 + 1), by simp, ?_, by omega, ?_, ?_⟩
    · exact ((HG.out.upd (S := fun b => b < _) (by repeat (first | with_reducible assumption | with_reducible exact Upd.refl _ _ | with_reducible apply Upd.drewN | with_reducible apply Upd.drew | with_reducible apply Upd.alloc | with_reducible refine Upd.set ?_ (by first | (left; simp; done) | (left; simp; omega) | (right; simp; done) | (right; simp; omega) | (right; omega)) _ | with_reducible refine Upd.next ?_ (Upd.of_ext (by with_reducible assumption)))) (fun b hb => hb)).base (by omega)).more (by omega)
    · exact HR.out.upd (by repeat (first | with_reducible assumption | with_reducible exact Upd.refl _ _ | with_reducible apply Upd.drewN | with_reducible apply Upd.drew | with_reducible apply Upd.alloc | with_reducible refine Upd.set ?_ (by first | (left; simp; done) | (left; simp; omega) | (right; simp; done) | (right; simp; omega) | (right; omega)) _ | with_reducible refine Upd.next ?_ (Upd.of_ext (by with_reducible assumption))))
    · exact (by repeat (first | with_reducible assumption | with_reducible exact Upd.refl _ _ | with_reducible apply Upd.drewN | with_reducible apply Upd.drew | with_reducible apply Upd.alloc | with_reducible refine Upd.set ?_ (by first | (left; simp; done) | (left; simp; omega) | (right; simp; done) | (right; simp; omega) | (right; omega)) _ | with_reducible refine Upd.next ?_ (Upd.of_ext (by with_reducible assumption))))
  · go_wp2_with fail
    refine (pick _ _ _ _ _ _ _ _ R2 (by omega)).mono ?_
    rintro e w3 ⟨u, rfl, hu0, hu1, R3, hU3⟩
    have hu2 := hu1 (by omega)
    obtain ⟨p0, p1⟩ := P2.upd hU3 (fun hb => by have e : w1.heap.size = r := hb; omega)
    obtain ⟨v0, v1⟩ := V2.upd hU3 (fun hb => by have e : w.heap.size = r := hb; omega)
    have G3 := G2.upd hU3 (fun b hb => by have e : b = r := hb; omega)
    have U3 := U2.next hU3
    have hpl := World.block_lt_of_cell? _ _ p0
    have hvl := World.block_lt_of_cell? _ _ v0
    simp only at hpl hvl
    have HG := hid G3
    have HR := hid R3
    have HU := hid U3
    clear G3 R3 U3 P2 V2 G2 U2 R2 hU3 hu1
    have hcase : u = 0 ∨ u = 1 ∨ u = 2 ∨ u = 3 ∨ u = 4 := by omega
    rcases hcase with rfl | rfl | rfl | rfl | rfl
    · go_wp2_with (at_builtin; (refine app_mono_lies (by decide) Try.underlying23 info_mono rfl _ _ rfl (w.heap.size + 1) A1 k1 ms1 (HG.out.lm.ext (by repeat (first | with_reducible assumption | with_reducible exact Ext.refl _ | with_reducible apply Ext.drewN | with_reducible apply Ext.drew | with_reducible apply Ext.alloc | with_reducible refine Ext.set ?_ (by first | (simp; done) | (simp; omega)) _ | with_reducible refine Ext.next ?_ (by with_reducible assumption)))) ms1.length rfl rfl ⟨0, none, 0, []⟩ ⟨w3.heap.size, 0, none⟩ 1 rfl (by rw [addr_add]; go_simp) (by rw [addr_add]; go_simp) (RJ.none_ _ _) (by omega) (by simp; omega) ?_); (intro A5 k5 w5 ho5 hu5 hat); (have hs5 := hu5.size); (obtain ⟨y0, y1⟩ := Var.upd (w' := w5) (b := w.heap.size) (v := .slice none 0 0) ⟨by go_simp, by go_simp⟩ hu5 (fun hb => by have := HF.out _ hb; omega)); (have HG5 := hid (GPN.snoc (HG.out.ext (by repeat (first | with_reducible assumption | with_reducible exact Ext.refl _ | with_reducible apply Ext.drewN | with_reducible apply Ext.drew | with_reducible apply Ext.alloc | with_reducible refine Ext.set ?_ (by first | (simp; done) | (simp; omega)) _ | with_reducible refine Ext.next ?_ (by with_reducible assumption)))) ho5 (fun b hb => by obtain ⟨_, _, e⟩ := hb; cases e) (by simp))); (have HR5 := hid ((HR.out.ext (by repeat (first | with_reducible assumption | with_reducible exact Ext.refl _ | with_reducible apply Ext.drewN | with_reducible apply Ext.drew | with_reducible apply Ext.alloc | with_reducible refine Ext.set ?_ (by first | (simp; done) | (simp; omega)) _ | with_reducible refine Ext.next ?_ (by with_reducible assumption)))).upd (hu5.mono fun b _ hb => by have := HF.out b hb; omega))); (have HU5 := hid ((HU.out.next (.of_ext (by repeat (first | with_reducible assumption | with_reducible exact Ext.refl _ | with_reducible apply Ext.drewN | with_reducible apply Ext.drew | with_reducible apply Ext.alloc | with_reducible refine Ext.set ?_ (by first | (simp; done) | (simp; omega)) _ | with_reducible refine Ext.next ?_ (by with_reducible assumption))))).far hu5 fun b hb => by have := HF.out b hb; omega)); clear ho5 hu5)
      have X := HU5.out
      have hyl := World.block_lt_of_cell? _ _ y0
      simp only at hyl
      refine bodyPost_ret (v := .agg #[.slice A5 (ms1.length + 1) k5]) (by simp [results, Try.results56, go_sem, *]) rfl ⟨A5, k5, (ms1 ++ [⟨0, none, 0, []⟩]), (d1 + 1 + 1), by simp, ?_, by omega, ?_, ?_⟩
      · exact ((HG5.out.upd (S := fun b => b < _) (by repeat (first | with_reducible assumption | with_reducible exact Upd.refl _ _ | with_reducible apply Upd.drewN | with_reducible apply Upd.drew | with_reducible apply Upd.alloc | with_reducible refine Upd.set ?_ (by first | (left; simp; done) | (left; simp; omega) | (right; simp; done) | (right; simp; omega) | (right; omega)) _ | with_reducible refine Upd.next ?_ (Upd.of_ext (by with_reducible assumption)))) (fun b hb => hb)).base (by omega)).more (by simp; omega)
      · exact HR5.out.upd (by repeat (first | with_reducible assumption | with_reducible exact Upd.refl _ _ | with_reducible apply Upd.drewN | with_reducible apply Upd.drew | with_reducible apply Upd.alloc | with_reducible refine Upd.set ?_ (by first | (left; simp; done) | (left; simp; omega) | (right; simp; done) | (right; simp; omega) | (right; omega)) _ | with_reducible refine Upd.next ?_ (Upd.of_ext (by with_reducible assumption))))
      · exact (by repeat (first | with_reducible assumption | with_reducible exact Upd.refl _ _ | with_reducible apply Upd.drewN | with_reducible apply Upd.drew | with_reducible apply Upd.alloc | with_reducible refine Upd.set ?_ (by first | (left; simp; done) | (left; simp; omega) | (right; simp; done) | (right; simp; omega) | (right; omega)) _ | with_reducible refine Upd.next ?_ (Upd.of_ext (by with_reducible assumption))))
    · have HL : Hid (∀ W : World, W.heap.size = w3.heap.size → GP 73 3 ((W.alloc (.cells #[.int .i64 2, .int .i64 1] 3)).alloc (.cells #[.int .i64 3, .slice (some ⟨w3.heap.size, 0, none⟩) 2 2] 73)) (w.heap.size + 1) (some ⟨w3.heap.size + 1, 0, none⟩) 1 [⟨3, some ⟨w3.heap.size, 0, none⟩, 2, [2, 1]⟩]) := hid (fun W hW => by simpa [hW] using GPN.lit (TM := 73) (TI := 3) (lo := w.heap.size + 1) (W.alloc (.cells #[.int .i64 2, .int .i64 1] 3)) 3 (some ⟨w3.heap.size, 0, none⟩) 2 [2, 1] (by simpa [hW] using RJ.lit (TI := 3) W 3 [2, 1]) (fun b hb => by obtain ⟨_, _, e⟩ := hb; injection e with e; injection e with e; omega) (by simp) (by simp [hW]; omega))
      go_wp2
      have X := HU.out
      refine bodyPost_ret (v := .agg #[.slice (some ⟨w3.heap.size + 1, 0, none⟩) 1 1]) (by simp [results, Try.results56, go_sem, *]) rfl ⟨(some ⟨w3.heap.size + 1, 0, none⟩), 1, [⟨3, some ⟨w3.heap.size, 0, none⟩, 2, [2, 1]⟩], (d1 + 1 + 1), by simp, ?_, by omega, ?_, ?_⟩
      · exact GPN.more (N' := 200) (GPN.base (lo' := w.heap.size) (HL.out _ (by simp)) (Nat.le_succ _)) (by simp)
      · exact HR.out.upd (by repeat (first | with_reducible assumption | with_reducible exact Upd.refl _ _ | with_reducible apply Upd.drewN | with_reducible apply Upd.drew | with_reducible apply Upd.alloc | with_reducible refine Upd.set ?_ (by first | (left; simp; done) | (left; simp; omega) | (right; simp; done) | (right; simp; omega) | (right; omega)) _ | with_reducible refine Upd.next ?_ (Upd.of_ext (by with_reducible assumption))))
      · exact (by repeat (first | with_reducible assumption | with_reducible exact Upd.refl _ _ | with_reducible apply Upd.drewN | with_reducible apply Upd.drew | with_reducible apply Upd.alloc | with_reducible refine Upd.set ?_ (by first | (left; simp; done) | (left; simp; omega) | (right; simp; done) | (right; simp; omega) | (right; omega)) _ | with_reducible refine Upd.next ?_ (Upd.of_ext (by with_reducible assumption))))
    · have HL : Hid (∀ W : World, W.heap.size = w3.heap.size → GP 73 3 ((W.alloc (.cells #[.int .i64 0, .int .i64 0, .int .i64 0, .int .i64 0, .int .i64 0] 3)).alloc (.cells #[.int .i64 3, .slice (some ⟨w3.heap.size, 0, none⟩) 5 5] 73)) (w.heap.size + 1) (some ⟨w3.heap.size + 1, 0, none⟩) 1 [⟨3, some ⟨w3.heap.size, 0, none⟩, 5, [0, 0, 0, 0, 0]⟩]) := hid (fun W hW => by simpa [hW] using GPN.lit (TM := 73) (TI := 3) (lo := w.heap.size + 1) (W.alloc (.cells #[.int .i64 0, .int .i64 0, .int .i64 0, .int .i64 0, .int .i64 0] 3)) 3 (some ⟨w3.heap.size, 0, none⟩) 5 [0, 0, 0, 0, 0] (by simpa [hW] using RJ.lit (TI := 3) W 3 [0, 0, 0, 0, 0]) (fun b hb => by obtain ⟨_, _, e⟩ := hb; injection e with e; injection e with e; omega) (by simp) (by simp [hW]; omega))
      go_wp2
      have X := HU.out
      refine bodyPost_ret (v := .agg #[.slice (some ⟨w3.heap.size + 1, 0, none⟩) 1 1]) (by simp [results, Try.results56, go_sem, *]) rfl ⟨(some ⟨w3.heap.size + 1, 0, none⟩), 1, [⟨3, some ⟨w3.heap.size, 0, none⟩, 5, [0, 0, 0, 0, 0]⟩], (d1 + 1 + 1), by simp, ?_, by omega, ?_, ?_⟩
      · exact GPN.more (N' := 200) (GPN.base (lo' := w.heap.size) (HL.out _ (by simp)) (Nat.le_succ _)) (by simp)
      · exact HR.out.upd (by repeat (first | with_reducible assumption | with_reducible exact Upd.refl _ _ | with_reducible apply Upd.drewN | with_reducible apply Upd.drew | with_reducible apply Upd.alloc | with_reducible refine Upd.set ?_ (by first | (left; simp; done) | (left; simp; omega) | (right; simp; done) | (right; simp; omega) | (right; omega)) _ | with_reducible refine Upd.next ?_ (Upd.of_ext (by with_reducible assumption))))
      · exact (by repeat (first | with_reducible assumption | with_reducible exact Upd.refl _ _ | with_reducible apply Upd.drewN | with_reducible apply Upd.drew | with_reducible apply Upd.alloc | with_reducible refine Upd.set ?_ (by first | (left; simp; done) | (left; simp; omega) | (right; simp; done) | (right; simp; omega) | (right; omega)) _ | with_reducible refine Upd.next ?_ (Upd.of_ext (by with_reducible assumption))))
    · have HL : Hid (∀ W : World, W.heap.size = w3.heap.size → GP 73 3 (W.alloc (.cells #[.int .i64 3, .slice none 0 0, .int .i64 4, .slice none 0 0] 73)) (w.heap.size + 1) (some ⟨w3.heap.size, 0, none⟩) 2 [⟨3, none, 0, []⟩, ⟨4, none, 0, []⟩]) := hid (fun W hW => by simpa [hW] using GPN.two W 3 4 (by omega))
      go_wp2
      have X := HU.out
      refine bodyPost_ret (v := .agg #[.slice (some ⟨w3.heap.size, 0, none⟩) 2 2]) (by simp [results, Try.results56, go_sem, *]) rfl ⟨(some ⟨w3.heap.size, 0, none⟩), 2, [⟨3, none, 0, []⟩, ⟨4, none, 0, []⟩], (d1 + 1 + 1), by simp, ?_, by omega, ?_, ?_⟩
      · exact GPN.more (N' := 200) (GPN.base (lo' := w.heap.size) (HL.out _ (by simp)) (Nat.le_succ _)) (by simp)
      · exact HR.out.upd (by repeat (first | with_reducible assumption | with_reducible exact Upd.refl _ _ | with_reducible apply Upd.drewN | with_reducible apply Upd.drew | with_reducible apply Upd.alloc | with_reducible refine Upd.set ?_ (by first | (left; simp; done) | (left; simp; omega) | (right; simp; done) | (right; simp; omega) | (right; omega)) _ | with_reducible refine Upd.next ?_ (Upd.of_ext (by with_reducible assumption))))
      · exact (by repeat (first | with_reducible assumption | with_reducible exact Upd.refl _ _ | with_reducible apply Upd.drewN | with_reducible apply Upd.drew | with_reducible apply Upd.alloc | with_reducible refine Upd.set ?_ (by first | (left; simp; done) | (left; simp; omega) | (right; simp; done) | (right; simp; omega) | (right; omega)) _ | with_reducible refine Upd.next ?_ (Upd.of_ext (by with_reducible assumption))))
    · have HFX : Hid (∀ b, atB A1 b → w.heap.size + 1 ≤ b ∧ b ≠ w1.heap.size) := hid fun b hb => by have := HF.out b hb; omega
      go_wp2
      go_loopw [] (fun wr => ∃ (A4 : Option Addr) (k4 : Nat) (ms4 : List Mn), Var wr w1.heap.size (.slice A4 ms4.length k4) ∧ Var wr w.heap.size (.slice none 0 0) ∧ GPN 200 73 3 wr (w.heap.size + 1) A4 k4 ms4 ∧ ms4.length ≤ 113 ∧ (∀ b, atB A4 b → w.heap.size + 1 ≤ b ∧ b ≠ w1.heap.size) ∧ (∀ x ∈ ms4, x.xs ≠ [] → ∀ b, atB x.A b → b ≠ w1.heap.size) ∧ Rd wr r A k m bs (d1 + 1 + 1) ∧ Upd (fun b => b = r) w wr) (fun wr => 13 - (match wr.cell? ⟨w1.heap.size, 0, none⟩ with | some (.slice _ n _) => n | _ => 0))
      case atStart => exact ⟨A1, k1, ms1, ⟨p0, p1⟩, ⟨v0, v1⟩, HG.out.more (by omega), by omega, HFX.out, HMX.out, HR.out, HU.out⟩
      case round =>
        clear p0 p1 v0 v1 hpl hvl
        obtain ⟨A4, k4, ms4, ⟨p0, p1⟩, ⟨v0, v1⟩, hG4, hl4, hf4, hm4, hR4, hU4⟩ := hrel
        have hpl := World.block_lt_of_cell? _ _ p0
        have hvl := World.block_lt_of_cell? _ _ v0
        simp only at hpl hvl
        have HG4 := hid hG4
        have HF4 := hid hf4
        have HM4 := hid hm4
        have HR4 := hid hR4
        have HU4 := hid hU4
        clear hG4 hf4 hm4 hR4 hU4
        by_cases hlt : ms4.length ≤ 12
        · have HJ : Hid (RJ 3 (wr.alloc (.cells #[.int .i64 7, .int .i64 7, .int .i64 7, .int .i64 (7 + (ms4.length : Int))] 3)) ⟨1, some ⟨wr.heap.size, 0, none⟩, 4, [7, 7, 7, 7 + (ms4.length : Int)]⟩) := hid (RJ.lit wr 1 [7, 7, 7, 7 + (ms4.length : Int)])
          go_wp2_with (at_builtin; (refine app_mono_lies (by decide) Try.underlying23 info_mono rfl _ _ rfl (w.heap.size + 1) A4 k4 ms4 (HG4.out.lm.ext (by repeat (first | with_reducible assumption | with_reducible exact Ext.refl _ | with_reducible apply Ext.drewN | with_reducible apply Ext.drew | with_reducible apply Ext.alloc | with_reducible refine Ext.set ?_ (by first | (simp; done) | (simp; omega)) _ | with_reducible refine Ext.next ?_ (by with_reducible assumption)))) ms4.length rfl rfl ⟨1, some ⟨wr.heap.size, 0, none⟩, 4, [7, 7, 7, 7 + (ms4.length : Int)]⟩ ⟨wr.heap.size + 1, 0, none⟩ 1 rfl (by rw [addr_add]; go_simp) (by rw [addr_add]; go_simp) (HJ.out.ext (by repeat (first | with_reducible assumption | with_reducible exact Ext.refl _ | with_reducible apply Ext.drewN | with_reducible apply Ext.drew | with_reducible apply Ext.alloc | with_reducible refine Ext.set ?_ (by first | (simp; done) | (simp; omega)) _ | with_reducible refine Ext.next ?_ (by with_reducible assumption)))) (by omega) (by simp; omega) ?_); (intro A5 k5 w5 ho5 hu5 hat); (have hs5 := hu5.size); (obtain ⟨y0, y1⟩ := Var.upd (w' := w5) (b := w.heap.size) (v := .slice none 0 0) ⟨by go_simp, by go_simp⟩ hu5 (fun hb => by have := HF4.out _ hb; omega)); (obtain ⟨x0, x1⟩ := Var.upd (w' := w5) (b := w1.heap.size) (v := .slice A4 ms4.length k4) ⟨by go_simp, by go_simp⟩ hu5 (fun hb => (HF4.out _ hb).2 rfl)); (have HG5 := hid (GPN.snoc ((HG4.out.more (N' := 112) (by omega)).ext (by repeat (first | with_reducible assumption | with_reducible exact Ext.refl _ | with_reducible apply Ext.drewN | with_reducible apply Ext.drew | with_reducible apply Ext.alloc | with_reducible refine Ext.set ?_ (by first | (simp; done) | (simp; omega)) _ | with_reducible refine Ext.next ?_ (by with_reducible assumption)))) ho5 (fun b hb => by obtain ⟨_, _, e⟩ := hb; injection e with e; injection e with e; omega) (by simp))); (have HF5 := hid hat); (have HR5 := hid ((HR4.out.ext (by repeat (first | with_reducible assumption | with_reducible exact Ext.refl _ | with_reducible apply Ext.drewN | with_reducible apply Ext.drew | with_reducible apply Ext.alloc | with_reducible refine Ext.set ?_ (by first | (simp; done) | (simp; omega)) _ | with_reducible refine Ext.next ?_ (by with_reducible assumption)))).upd (hu5.mono fun b _ hb => by have := HF4.out b hb; omega))); (have HU5 := hid ((HU4.out.next (.of_ext (by repeat (first | with_reducible assumption | with_reducible exact Ext.refl _ | with_reducible apply Ext.drewN | with_reducible apply Ext.drew | with_reducible apply Ext.alloc | with_reducible refine Ext.set ?_ (by first | (simp; done) | (simp; omega)) _ | with_reducible refine Ext.next ?_ (by with_reducible assumption))))).far hu5 fun b hb => by have := HF4.out b hb; omega)); clear ho5 hu5 hat)
          have hxl := World.block_lt_of_cell? _ _ x0
          have hyl := World.block_lt_of_cell? _ _ y0
          simp only at hxl hyl
          go_roundw
          case rel =>
            have X := HU5.out
            refine ⟨A5, k5, ms4 ++ [⟨1, some ⟨wr.heap.size, 0, none⟩, 4, [7, 7, 7, 7 + (ms4.length : Int)]⟩], ⟨?_, ?_⟩, ⟨?_, ?_⟩, ?_, ?_, ?_, ?_, HR5.out.upd (by repeat (first | with_reducible assumption | with_reducible exact Upd.refl _ _ | with_reducible apply Upd.drewN | with_reducible apply Upd.drew | with_reducible apply Upd.alloc | with_reducible refine Upd.set ?_ (by first | (left; simp; done) | (left; simp; omega) | (right; simp; done) | (right; simp; omega) | (right; omega)) _ | with_reducible refine Upd.next ?_ (Upd.of_ext (by with_reducible assumption)))), (by repeat (first | with_reducible assumption | with_reducible exact Upd.refl _ _ | with_reducible apply Upd.drewN | with_reducible apply Upd.drew | with_reducible apply Upd.alloc | with_reducible refine Upd.set ?_ (by first | (left; simp; done) | (left; simp; omega) | (right; simp; done) | (right; simp; omega) | (right; omega)) _ | with_reducible refine Upd.next ?_ (Upd.of_ext (by with_reducible assumption))))⟩
            · rw [List.length_append]
              go_simp
            · go_simp
            · go_simp
            · go_simp
            · refine (HG5.out.more (N' := 200) (by simp; omega)).upd_at (S := fun b => b = w1.heap.size) (by repeat (first | with_reducible assumption | with_reducible exact Upd.refl _ _ | with_reducible apply Upd.drewN | with_reducible apply Upd.drew | with_reducible apply Upd.alloc | with_reducible refine Upd.set ?_ (by first | (left; simp; done) | (left; simp; omega) | (right; simp; done) | (right; simp; omega) | (right; omega)) _ | with_reducible refine Upd.next ?_ (Upd.of_ext (by with_reducible assumption)))) (fun b hb e => ?_) (fun x hx hne b hb e => ?_)
              · rcases HF5.out b hb with h1 | h1
                · exact (HF4.out b h1).2 e
                · have e' : b = w1.heap.size := e
                  simp at h1
                  omega
              · have e' : b = w1.heap.size := e
                rcases List.mem_append.1 hx with hx | hx
                · exact HM4.out x hx hne b hb e'
                · rw [List.mem_singleton.1 hx] at hb
                  obtain ⟨_, _, e2⟩ := hb
                  injection e2 with e2
                  injection e2 with e2
                  omega
            · simp; omega
            · intro b hb
              rcases HF5.out b hb with h1 | h1
              · exact HF4.out b h1
              · simp at h1
                omega
            · intro x hx hne b hb
              rcases List.mem_append.1 hx with hx | hx
              · exact HM4.out x hx hne b hb
              · rw [List.mem_singleton.1 hx] at hb
                obtain ⟨_, _, e2⟩ := hb
                injection e2 with e2
                injection e2 with e2
                omega
          case measure =>
            have z1 : (w5.setCell ⟨w1.heap.size, 0, none⟩ (.slice A5 (ms4.length + 1) k5)).cell? ⟨w1.heap.size, 0, none⟩ = some (.slice A5 (ms4.length + 1) k5) := by go_simp
            rw [z1, p0]
            simp only
            omega
        · go_wp2
          have X := HU4.out
          refine bodyPost_ret (v := .agg #[.slice A4 ms4.length k4]) (by simp [results, Try.results56, go_sem, *]) rfl ⟨A4, k4, ms4, (d1 + 1 + 1), by simp, ?_, by omega, ?_, ?_⟩
          · exact (HG4.out.upd (S := fun b => b < _) (by repeat (first | with_reducible assumption | with_reducible exact Upd.refl _ _ | with_reducible apply Upd.drewN | with_reducible apply Upd.drew | with_reducible apply Upd.alloc | with_reducible refine Upd.set ?_ (by first | (left; simp; done) | (left; simp; omega) | (right; simp; done) | (right; simp; omega) | (right; omega)) _ | with_reducible refine Upd.next ?_ (Upd.of_ext (by with_reducible assumption)))) (fun b hb => hb)).base (by omega)
          · exact HR4.out.upd (by repeat (first | with_reducible assumption | with_reducible exact Upd.refl _ _ | with_reducible apply Upd.drewN | with_reducible apply Upd.drew | with_reducible apply Upd.alloc | with_reducible refine Upd.set ?_ (by first | (left; simp; done) | (left; simp; omega) | (right; simp; done) | (right; simp; omega) | (right; omega)) _ | with_reducible refine Upd.next ?_ (Upd.of_ext (by with_reducible assumption))))
          · exact (by repeat (first | with_reducible assumption | with_reducible exact Upd.refl _ _ | with_reducible apply Upd.drewN | with_reducible apply Upd.drew | with_reducible apply Upd.alloc | with_reducible refine Upd.set ?_ (by first | (left; simp; done) | (left; simp; omega) | (right; simp; done) | (right; simp; omega) | (right; omega)) _ | with_reducible refine Upd.next ?_ (Upd.of_ext (by with_reducible assumption))))
end Go.Proofs.Ytcgelcaepkakaaa
