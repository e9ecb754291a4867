/- Contracts of marking machines and of holding the marks (the laws' own helpers). Conditions: lengths that a machine can hold. -/
import Derived.Test.YtcjeeggffeoilaaMN
import Derived.Test.YtcjeeggffeoilaaH
namespace Go.Proofs.Ytcjeeggffeoilaa
open Go Go.RowKit
set_option linter.unusedVariables false
set_option linter.unusedSimpArgs false

theorem OI.nilk {TI : TypeId} {w : World} {lo k : Nat} {A : Option Addr} {xs : List Int} (h : OI TI w lo A k xs) : A = none → k = 0 := by
  rintro rfl
  rcases h.2 with ⟨e, _⟩ | ⟨g, cap, cur, e, _⟩
  · injection e
  · injection e with e
    cases e
def Mc.mark (m : Mc) (k : Int) : Mc := { m with regs := markI k m.regs.length, mem := markI (k + m.regs.length) m.mem.length, ins := markI (k + m.regs.length + m.mem.length) m.ins.length, outs := markI (k + m.regs.length + m.mem.length + m.ins.length) m.outs.length }
theorem Mc.mark_val (m : Mc) (k : Int) : (m.mark k).val = m.val := by simp [Mc.val, Mc.cells, Mc.mark, markI_length]
def footMc (m : Mc) (b : Nat) : Prop := atB m.A0 b ∨ atB m.A2 b ∨ atB m.A7 b ∨ atB m.A8 b
theorem OMc.foot_ {TI : TypeId} {w : World} {lo : Nat} {m : Mc} (h : OMc TI w lo m) {b : Nat} (hb : footMc m b) : lo ≤ b ∧ b < w.heap.size := by
  rcases hb with hb | hb | hb | hb
  · exact own_atB h.1 hb
  · exact own_atB h.2.1 hb
  · exact own_atB h.2.2.1 hb
  · exact own_atB h.2.2.2 hb
theorem OMc.ext {TI : TypeId} {w w' : World} {lo : Nat} {m : Mc} (h : OMc TI w lo m) (he : Ext w w') : OMc TI w' lo m := ⟨h.1.ext he, h.2.1.ext he, h.2.2.1.ext he, h.2.2.2.ext he⟩
theorem OMc.base {TI : TypeId} {w : World} {lo lo' : Nat} {m : Mc} (h : OMc TI w lo m) (hl : lo' ≤ lo) : OMc TI w lo' m := ⟨h.1.base hl, h.2.1.base hl, h.2.2.1.base hl, h.2.2.2.base hl⟩
theorem OMc.upd {TI : TypeId} {w w' : World} {lo : Nat} {m : Mc} {S : Nat → Prop} (h : OMc TI w lo m) (he : Upd S w w') (hs : ∀ b, footMc m b → ¬ S b) : OMc TI w' lo m :=
  ⟨own_upd' h.1 he fun b hb => hs b (.inl hb), own_upd' h.2.1 he fun b hb => hs b (.inr (.inl hb)), own_upd' h.2.2.1 he fun b hb => hs b (.inr (.inr (.inl hb))), own_upd' h.2.2.2 he fun b hb => hs b (.inr (.inr (.inr hb)))⟩
theorem RMc.upd_lt {TI : TypeId} {S : Nat → Prop} {w0 w w' : World} {m : Mc} (h : RMc TI w0 m) (h0 : Ext w0 w) (he : Upd S w w') (hs : ∀ b, b < w0.heap.size → ¬ S b) : RMc TI w' m := ⟨h.1.upd_lt h0 he hs, h.2.1.upd_lt h0 he hs, h.2.2.1.upd_lt h0 he hs, h.2.2.2.upd_lt h0 he hs⟩

set_option maxHeartbeats 1000000 in
theorem markMach (m : Mc) (lo : Nat) (k : Int) (w : World) (h : OMc 3 w lo m) (hs : Sep m) (h0 : 0 ≤ k) (h1 : k + totMc m < 4611686018427387904) :
    Calls Try.prog 17 #[m.val, .int .i64 k] w fun e w' => e = .returned (.int .i64 (k + totMc m)) ∧ OMc 3 w' lo (m.mark k) ∧ Upd (footMc m) w w' := by
  unfold totMc at h1 ⊢
  unfold Mc.val Mc.cells
  have hl0 : ∀ b, atB m.A0 b → b < w.heap.size := fun b hb => (own_atB h.1 hb).2
  have hl2 : ∀ b, atB m.A2 b → b < w.heap.size := fun b hb => (own_atB h.2.1 hb).2
  have hl7 : ∀ b, atB m.A7 b → b < w.heap.size := fun b hb => (own_atB h.2.2.1 hb).2
  have hl8 : ∀ b, atB m.A8 b → b < w.heap.size := fun b hb => (own_atB h.2.2.2 hb).2
  have HH := hid h
  have HS := hid hs
  clear h hs
  go_enter Try.func17, Try.ntmps17
  go_wp2_with fail
  refine (markIntS _ _ _ _ _ _ (HH.out.1.ext (by repeat (first | with_reducible assumption | with_reducible exact Ext.refl _ | with_reducible apply Ext.drewN | with_reducible apply Ext.drew | with_reducible apply Ext.alloc | with_reducible refine Ext.set ?_ (by first | (simp; done) | (simp; omega)) _ | with_reducible refine Ext.next ?_ (by with_reducible assumption)))) h0 (by omega)).mono ?_
  rintro e w1 ⟨rfl, o0, hu1⟩
  have U1 : Upd (footMc m) w w1 := (Upd.of_ext (by repeat (first | with_reducible assumption | with_reducible exact Ext.refl _ | with_reducible apply Ext.drewN | with_reducible apply Ext.drew | with_reducible apply Ext.alloc | with_reducible refine Ext.set ?_ (by first | (simp; done) | (simp; omega)) _ | with_reducible refine Ext.next ?_ (by with_reducible assumption)))).next (hu1.mono fun b _ hb => .inl hb)
  have o2 := own_upd' (HH.out.2.1.ext (a := (w.alloc (.cells #[.slice m.A0 m.regs.length m.k0, .int .i64 m.pc, .slice m.A2 m.mem.length m.k2, .int .i64 m.save, .bool m.let_, .bool m.waits, .int .i64 m.halt, .slice m.A7 m.ins.length m.k7, .slice m.A8 m.outs.length m.k8, .int .i64 m.count] 27))) (by repeat (first | with_reducible assumption | with_reducible exact Ext.refl _ | with_reducible apply Ext.drewN | with_reducible apply Ext.drew | with_reducible apply Ext.alloc | with_reducible refine Ext.set ?_ (by first | (simp; done) | (simp; omega)) _ | with_reducible refine Ext.next ?_ (by with_reducible assumption)))) hu1 (fun b hb hb' => (HS.out b).1 hb' hb)
  have o7 := own_upd' (HH.out.2.2.1.ext (a := (w.alloc (.cells #[.slice m.A0 m.regs.length m.k0, .int .i64 m.pc, .slice m.A2 m.mem.length m.k2, .int .i64 m.save, .bool m.let_, .bool m.waits, .int .i64 m.halt, .slice m.A7 m.ins.length m.k7, .slice m.A8 m.outs.length m.k8, .int .i64 m.count] 27))) (by repeat (first | with_reducible assumption | with_reducible exact Ext.refl _ | with_reducible apply Ext.drewN | with_reducible apply Ext.drew | with_reducible apply Ext.alloc | with_reducible refine Ext.set ?_ (by first | (simp; done) | (simp; omega)) _ | with_reducible refine Ext.next ?_ (by with_reducible assumption)))) hu1 (fun b hb hb' => (HS.out b).2.1 hb' hb)
  have o8 := own_upd' (HH.out.2.2.2.ext (a := (w.alloc (.cells #[.slice m.A0 m.regs.length m.k0, .int .i64 m.pc, .slice m.A2 m.mem.length m.k2, .int .i64 m.save, .bool m.let_, .bool m.waits, .int .i64 m.halt, .slice m.A7 m.ins.length m.k7, .slice m.A8 m.outs.length m.k8, .int .i64 m.count] 27))) (by repeat (first | with_reducible assumption | with_reducible exact Ext.refl _ | with_reducible apply Ext.drewN | with_reducible apply Ext.drew | with_reducible apply Ext.alloc | with_reducible refine Ext.set ?_ (by first | (simp; done) | (simp; omega)) _ | with_reducible refine Ext.next ?_ (by with_reducible assumption)))) hu1 (fun b hb hb' => (HS.out b).2.2.2 hb)
  have hz1 : w.heap.size < w1.heap.size := by have := hu1.size; simp at this; omega
  have hc1 : ∀ o, w1.cell? ⟨w.heap.size, o, none⟩ = (w.alloc (.cells #[.slice m.A0 m.regs.length m.k0, .int .i64 m.pc, .slice m.A2 m.mem.length m.k2, .int .i64 m.save, .bool m.let_, .bool m.waits, .int .i64 m.halt, .slice m.A7 m.ins.length m.k7, .slice m.A8 m.outs.length m.k8, .int .i64 m.count] 27)).cell? ⟨w.heap.size, o, none⟩ := fun o => hu1.cell (p := ⟨w.heap.size, o, none⟩) (by simp) (fun hb => by have := hl0 _ hb; simp only at this; omega)
  have HO0 := hid o0
  clear o0 hu1
  go_wp2_with fail
  refine (markIntS _ _ _ _ _ _ o2 (by omega) (by omega)).mono ?_
  rintro e w2 ⟨rfl, p2, hu2⟩
  have U2 := U1.next (hu2.mono (S' := footMc m) fun b _ hb => .inr (.inl hb))
  have q0 := hid (own_upd' HO0.out hu2 (fun b hb hb' => (HS.out b).1 hb hb'))
  have q7 := own_upd' o7 hu2 (fun b hb hb' => (HS.out b).2.2.1 hb' hb)
  have q8 := own_upd' o8 hu2 (fun b hb hb' => (HS.out b).2.2.2 hb)
  have hz2 : w.heap.size < w2.heap.size := by have := hu2.size; omega
  have hc2 : ∀ o, w2.cell? ⟨w.heap.size, o, none⟩ = (w.alloc (.cells #[.slice m.A0 m.regs.length m.k0, .int .i64 m.pc, .slice m.A2 m.mem.length m.k2, .int .i64 m.save, .bool m.let_, .bool m.waits, .int .i64 m.halt, .slice m.A7 m.ins.length m.k7, .slice m.A8 m.outs.length m.k8, .int .i64 m.count] 27)).cell? ⟨w.heap.size, o, none⟩ := fun o => (hu2.cell (p := ⟨w.heap.size, o, none⟩) hz1 (fun hb => by have := hl2 _ hb; simp only at this; omega)).trans (hc1 o)
  have HP2 := hid p2
  clear p2 hu2 hc1 o2 o7 o8 U1
  go_wp2_with fail
  refine (markIntS _ _ _ _ _ _ q7 (by omega) (by omega)).mono ?_
  rintro e w3 ⟨rfl, p7, hu3⟩
  have U3 := U2.next (hu3.mono (S' := footMc m) fun b _ hb => .inr (.inr (.inl hb)))
  have r0 := hid (own_upd' q0.out hu3 (fun b hb hb' => (HS.out b).2.1 hb hb'))
  have r2 := hid (own_upd' HP2.out hu3 (fun b hb hb' => (HS.out b).2.2.1 hb hb'))
  have r8 := own_upd' q8 hu3 (fun b hb hb' => (HS.out b).2.2.2 hb)
  have hz3 : w.heap.size < w3.heap.size := by have := hu3.size; omega
  have hc3 : ∀ o, w3.cell? ⟨w.heap.size, o, none⟩ = (w.alloc (.cells #[.slice m.A0 m.regs.length m.k0, .int .i64 m.pc, .slice m.A2 m.mem.length m.k2, .int .i64 m.save, .bool m.let_, .bool m.waits, .int .i64 m.halt, .slice m.A7 m.ins.length m.k7, .slice m.A8 m.outs.length m.k8, .int .i64 m.count] 27)).cell? ⟨w.heap.size, o, none⟩ := fun o => (hu3.cell (p := ⟨w.heap.size, o, none⟩) hz2 (fun hb => by have := hl7 _ hb; simp only at this; omega)).trans (hc2 o)
  have HP7 := hid p7
  clear p7 hu3 hc2 q7 q8 U2
  go_wp2_with fail
  refine (markIntS _ _ _ _ _ _ r8 (by omega) (by omega)).mono ?_
  rintro e w4 ⟨rfl, p8, hu4⟩
  have U4 := hid (U3.next (hu4.mono (S' := footMc m) fun b _ hb => .inr (.inr (.inr hb))))
  have HM := hid (show OMc 3 w4 lo (m.mark k) from ⟨own_upd' r0.out hu4 (fun b hb hb' => (HS.out b).2.2.2 hb'), own_upd' r2.out hu4 (fun b hb hb' => (HS.out b).2.2.2 hb'), own_upd' HP7.out hu4 (fun b hb hb' => (HS.out b).2.2.2 hb'), p8⟩)
  clear p8 hu4 hc3 r8 U3
  go_wp2
  go_ret
  exact ⟨ret_int (by omega), HM.out, U4.out⟩

theorem heldMach (m : Mc) (k : Int) (w : World) (h : RMc 3 w (m.mark k)) (h0 : 0 ≤ k) (h1 : k + totMc m < 4611686018427387904) :
    Calls Try.prog 18 #[m.val, .int .i64 k] w fun e w' => e = .returned (.int .i64 (k + totMc m)) ∧ Ext w w' := by
  unfold totMc at h1 ⊢
  unfold Mc.val Mc.cells
  obtain ⟨g0, g2, g7, g8⟩ := h
  have b0 : decide (k + (m.regs.length : Int) < 0) = false := by rw [decide_eq_false_iff_not]; omega
  have b2 : decide (k + (m.regs.length : Int) + (m.mem.length : Int) < 0) = false := by rw [decide_eq_false_iff_not]; omega
  have b7 : decide (k + (m.regs.length : Int) + (m.mem.length : Int) + (m.ins.length : Int) < 0) = false := by rw [decide_eq_false_iff_not]; omega
  have b8 : decide (k + (m.regs.length : Int) + (m.mem.length : Int) + (m.ins.length : Int) + (m.outs.length : Int) < 0) = false := by rw [decide_eq_false_iff_not]; omega
  go_enter Try.func18, Try.ntmps18
  go_wp2_with fail
  refine (heldIntS _ _ _ _ _ (g0.ext (by repeat (first | with_reducible assumption | with_reducible exact Ext.refl _ | with_reducible apply Ext.drewN | with_reducible apply Ext.drew | with_reducible apply Ext.alloc | with_reducible refine Ext.set ?_ (by first | (simp; done) | (simp; omega)) _ | with_reducible refine Ext.next ?_ (by with_reducible assumption)))) h0 (by omega)).mono ?_
  rintro e w1 ⟨rfl, rfl⟩
  go_wp2_with fail
  refine (heldIntS _ _ _ _ _ (g2.ext (by repeat (first | with_reducible assumption | with_reducible exact Ext.refl _ | with_reducible apply Ext.drewN | with_reducible apply Ext.drew | with_reducible apply Ext.alloc | with_reducible refine Ext.set ?_ (by first | (simp; done) | (simp; omega)) _ | with_reducible refine Ext.next ?_ (by with_reducible assumption)))) (by omega) (by omega)).mono ?_
  rintro e w1 ⟨rfl, rfl⟩
  go_wp2_with fail
  refine (heldIntS _ _ _ _ _ (g7.ext (by repeat (first | with_reducible assumption | with_reducible exact Ext.refl _ | with_reducible apply Ext.drewN | with_reducible apply Ext.drew | with_reducible apply Ext.alloc | with_reducible refine Ext.set ?_ (by first | (simp; done) | (simp; omega)) _ | with_reducible refine Ext.next ?_ (by with_reducible assumption)))) (by omega) (by omega)).mono ?_
  rintro e w1 ⟨rfl, rfl⟩
  go_wp2_with fail
  refine (heldIntS _ _ _ _ _ (g8.ext (by repeat (first | with_reducible assumption | with_reducible exact Ext.refl _ | with_reducible apply Ext.drewN | with_reducible apply Ext.drew | with_reducible apply Ext.alloc | with_reducible refine Ext.set ?_ (by first | (simp; done) | (simp; omega)) _ | with_reducible refine Ext.next ?_ (by with_reducible assumption)))) (by omega) (by omega)).mono ?_
  rintro e w1 ⟨rfl, rfl⟩
  go_wp2
  go_ret
  exact ⟨ret_int (by omega), (by repeat (first | with_reducible assumption | with_reducible exact Ext.refl _ | with_reducible apply Ext.drewN | with_reducible apply Ext.drew | with_reducible apply Ext.alloc | with_reducible refine Ext.set ?_ (by first | (simp; done) | (simp; omega)) _ | with_reducible refine Ext.next ?_ (by with_reducible assumption)))⟩
end Go.Proofs.Ytcjeeggffeoilaa
