/- Contracts of the laws' own helpers over machines, and of MchOk. Conditions: lengths that a machine can hold. -/
import Derived.Test.YtabbjnamlkphmaaMC
import Derived.Test.YtabbjnamlkphmaaW
namespace Go.Proofs.Ytabbjnamlkphmaa
open Go Go.RowKit
set_option linter.unusedVariables false
set_option linter.unusedSimpArgs false

theorem bcell_ {W w1 : World} (hb : Ext W w1) : (∀ b o, b < W.heap.size → w1.cell? ⟨b, o, none⟩ = W.cell? ⟨b, o, none⟩) ∧ (∀ b o, b < W.heap.size → w1.frozen? ⟨b, o, none⟩ = W.frozen? ⟨b, o, none⟩) :=
  ⟨fun b o h => hb.cell (p := ⟨b, o, none⟩) h, fun b o h => hb.frozen (p := ⟨b, o, none⟩) h⟩

def totMc (m : Mc) : Nat := m.regs.length + m.mem.length + m.ins.length + m.outs.length
theorem szF_part {left : Int} {a b : Nat} (h : (a : Int) ≤ left) : szF left (a + b) = szF (left - a) b := by
  unfold szF
  split <;> split <;> omega

theorem szMach (m : Mc) (left : Int) (w : World) (hs : SzMc m) (h0 : 0 ≤ left) (h1 : left ≤ 1048576) :
    Calls Try.prog 39 #[m.val, .int .i64 left] w fun e w' => e = .returned (.int .i64 (szF left (totMc m))) ∧ Ext w w' := by
  obtain ⟨s0, s2, s7, s8⟩ := hs
  unfold Mc.val Mc.cells
  by_cases q0 : left < m.regs.length
  · have E0 := hid (szF_lt q0)
    have ET := hid (szF_lt (left := left) (n := totMc m) (by unfold totMc; omega))
    go_enter Try.func39, Try.ntmps39
    go_wp2_with fail
    refine (szIntS _ _ _ _ _ s0 h0 h1).mono ?_
    rintro e w1 ⟨rfl, hw1⟩
    rw [E0.out]
    go_wp2
    go_ret
    exact ⟨ret_int ET.out.symm, (by repeat (first | with_reducible assumption | with_reducible exact Ext.refl _ | with_reducible apply Ext.drewN | with_reducible apply Ext.drew | with_reducible apply Ext.alloc | with_reducible refine Ext.set ?_ (by first | (simp; done) | (simp; omega)) _ | with_reducible refine Ext.next ?_ (by with_reducible assumption)))⟩
  have E0 := hid (szF_ge (left := left) (n := m.regs.length) (by omega))
  by_cases q2 : left - m.regs.length < m.mem.length
  · have E2 := hid (szF_lt q2)
    have ET := hid (szF_lt (left := left) (n := totMc m) (by unfold totMc; omega))
    go_enter Try.func39, Try.ntmps39
    go_wp2_with fail
    refine (szIntS _ _ _ _ _ s0 h0 h1).mono ?_
    rintro e w1 ⟨rfl, hw1⟩
    rw [E0.out]
    obtain ⟨hc1, hf1⟩ := bcell_ hw1
    have hz1 : w.heap.size < w1.heap.size := by have := hw1.size; simp at this; omega
    go_wp2_with fail
    refine (szIntS _ _ _ _ _ s2 (by omega) (by omega)).mono ?_
    rintro e w2 ⟨rfl, hw2⟩
    rw [E2.out]
    go_wp2
    go_ret
    exact ⟨ret_int ET.out.symm, (by repeat (first | with_reducible assumption | with_reducible exact Ext.refl _ | with_reducible apply Ext.drewN | with_reducible apply Ext.drew | with_reducible apply Ext.alloc | with_reducible refine Ext.set ?_ (by first | (simp; done) | (simp; omega)) _ | with_reducible refine Ext.next ?_ (by with_reducible assumption)))⟩
  have E2 := hid (szF_ge (left := left - m.regs.length) (n := m.mem.length) (by omega))
  by_cases q7 : left - m.regs.length - m.mem.length < m.ins.length
  · have E7 := hid (szF_lt q7)
    have ET := hid (szF_lt (left := left) (n := totMc m) (by unfold totMc; omega))
    go_enter Try.func39, Try.ntmps39
    go_wp2_with fail
    refine (szIntS _ _ _ _ _ s0 h0 h1).mono ?_
    rintro e w1 ⟨rfl, hw1⟩
    rw [E0.out]
    obtain ⟨hc1, hf1⟩ := bcell_ hw1
    have hz1 : w.heap.size < w1.heap.size := by have := hw1.size; simp at this; omega
    go_wp2_with fail
    refine (szIntS _ _ _ _ _ s2 (by omega) (by omega)).mono ?_
    rintro e w2 ⟨rfl, hw2⟩
    rw [E2.out]
    obtain ⟨hc2, hf2⟩ := bcell_ hw2
    have hz2 := lt_ext hw2 hz1
    go_wp2_with fail
    refine (szIntS _ _ _ _ _ s7 (by omega) (by omega)).mono ?_
    rintro e w3 ⟨rfl, hw3⟩
    rw [E7.out]
    go_wp2
    go_ret
    exact ⟨ret_int ET.out.symm, (by repeat (first | with_reducible assumption | with_reducible exact Ext.refl _ | with_reducible apply Ext.drewN | with_reducible apply Ext.drew | with_reducible apply Ext.alloc | with_reducible refine Ext.set ?_ (by first | (simp; done) | (simp; omega)) _ | with_reducible refine Ext.next ?_ (by with_reducible assumption)))⟩
  have E7 := hid (szF_ge (left := left - m.regs.length - m.mem.length) (n := m.ins.length) (by omega))
  have ET := hid (show szF left (totMc m) = szF (left - m.regs.length - m.mem.length - m.ins.length) m.outs.length by unfold totMc szF; split <;> split <;> omega)
  have hb : ∀ x : Int, x < 0 → (-1 : Int) = -1 := fun _ _ => rfl
  clear hb
  by_cases q8 : left - m.regs.length - m.mem.length - m.ins.length < m.outs.length
  · have E8 := hid (szF_lt q8)
    go_enter Try.func39, Try.ntmps39
    go_wp2_with fail
    refine (szIntS _ _ _ _ _ s0 h0 h1).mono ?_
    rintro e w1 ⟨rfl, hw1⟩
    rw [E0.out]
    obtain ⟨hc1, hf1⟩ := bcell_ hw1
    have hz1 : w.heap.size < w1.heap.size := by have := hw1.size; simp at this; omega
    go_wp2_with fail
    refine (szIntS _ _ _ _ _ s2 (by omega) (by omega)).mono ?_
    rintro e w2 ⟨rfl, hw2⟩
    rw [E2.out]
    obtain ⟨hc2, hf2⟩ := bcell_ hw2
    have hz2 := lt_ext hw2 hz1
    go_wp2_with fail
    refine (szIntS _ _ _ _ _ s7 (by omega) (by omega)).mono ?_
    rintro e w3 ⟨rfl, hw3⟩
    rw [E7.out]
    obtain ⟨hc3, hf3⟩ := bcell_ hw3
    have hz3 := lt_ext hw3 hz2
    go_wp2_with fail
    refine (szIntS _ _ _ _ _ s8 (by omega) (by omega)).mono ?_
    rintro e w4 ⟨rfl, hw4⟩
    rw [E8.out]
    go_wp2
    go_ret
    exact ⟨ret_int (ET.out.trans E8.out).symm, (by repeat (first | with_reducible assumption | with_reducible exact Ext.refl _ | with_reducible apply Ext.drewN | with_reducible apply Ext.drew | with_reducible apply Ext.alloc | with_reducible refine Ext.set ?_ (by first | (simp; done) | (simp; omega)) _ | with_reducible refine Ext.next ?_ (by with_reducible assumption)))⟩
  · have E8 := hid (szF_ge (left := left - m.regs.length - m.mem.length - m.ins.length) (n := m.outs.length) (by omega))
    go_enter Try.func39, Try.ntmps39
    go_wp2_with fail
    refine (szIntS _ _ _ _ _ s0 h0 h1).mono ?_
    rintro e w1 ⟨rfl, hw1⟩
    rw [E0.out]
    obtain ⟨hc1, hf1⟩ := bcell_ hw1
    have hz1 : w.heap.size < w1.heap.size := by have := hw1.size; simp at this; omega
    go_wp2_with fail
    refine (szIntS _ _ _ _ _ s2 (by omega) (by omega)).mono ?_
    rintro e w2 ⟨rfl, hw2⟩
    rw [E2.out]
    obtain ⟨hc2, hf2⟩ := bcell_ hw2
    have hz2 := lt_ext hw2 hz1
    go_wp2_with fail
    refine (szIntS _ _ _ _ _ s7 (by omega) (by omega)).mono ?_
    rintro e w3 ⟨rfl, hw3⟩
    rw [E7.out]
    obtain ⟨hc3, hf3⟩ := bcell_ hw3
    have hz3 := lt_ext hw3 hz2
    go_wp2_with fail
    refine (szIntS _ _ _ _ _ s8 (by omega) (by omega)).mono ?_
    rintro e w4 ⟨rfl, hw4⟩
    rw [E8.out]
    go_wp2
    go_ret
    exact ⟨ret_int (ET.out.trans E8.out).symm, (by repeat (first | with_reducible assumption | with_reducible exact Ext.refl _ | with_reducible apply Ext.drewN | with_reducible apply Ext.drew | with_reducible apply Ext.alloc | with_reducible refine Ext.set ?_ (by first | (simp; done) | (simp; omega)) _ | with_reducible refine Ext.next ?_ (by with_reducible assumption)))⟩

def Mc.dat (m : Mc) := (m.regs, m.pc, m.mem, m.save, m.let_, m.waits, m.halt, m.ins, m.outs, m.count)
def RMc (TI : TypeId) (w : World) (m : Mc) : Prop := RI TI w m.A0 m.regs ∧ RI TI w m.A2 m.mem ∧ RI TI w m.A7 m.ins ∧ RI TI w m.A8 m.outs
def OMc (TI : TypeId) (w : World) (lo : Nat) (m : Mc) : Prop := OI TI w lo m.A0 m.k0 m.regs ∧ OI TI w lo m.A2 m.k2 m.mem ∧ OI TI w lo m.A7 m.k7 m.ins ∧ OI TI w lo m.A8 m.k8 m.outs
theorem OMc.rm {TI : TypeId} {w : World} {lo : Nat} {m : Mc} (h : OMc TI w lo m) : RMc TI w m := ⟨h.1.ri, h.2.1.ri, h.2.2.1.ri, h.2.2.2.ri⟩
theorem RMc.ext {TI : TypeId} {w w' : World} {m : Mc} (h : RMc TI w m) (he : Ext w w') : RMc TI w' m := ⟨h.1.ext he, h.2.1.ext he, h.2.2.1.ext he, h.2.2.2.ext he⟩
theorem OI.upd_lo {TI : TypeId} {w w' : World} {lo lo' k : Nat} {A : Option Addr} {xs : List Int} {S : Nat → Prop} (h : OI TI w lo A k xs) (he : Upd S w w') (hs : ∀ b, S b → b < lo) (hl : lo' ≤ lo) : OI TI w' lo' A k xs :=
  own_base (own_upd' h he fun b hb hb' => by have := (own_atB h hb).1; have := hs b hb'; omega) hl
/-- A machine of the same data, in memory of its own. -/
def RetMc (TI : TypeId) (w : World) (d : List Int × Int × List Int × Int × Bool × Bool × Int × List Int × List Int × Int) (e : Ending) (w' : World) : Prop := ∃ m : Mc, e = .returned m.val ∧ m.dat = d ∧ OMc TI w' w.heap.size m ∧ Ext w w'

set_option maxRecDepth 100000 in
set_option maxHeartbeats 2000000 in
theorem toMach (m : Mc) (w : World) (h : AMc w m) (n0 : m.regs.length ≤ 1048576) (n2 : m.mem.length ≤ 1048576) (n7 : m.ins.length ≤ 1048576) (n8 : m.outs.length ≤ 1048576) :
    Calls Try.prog 41 #[m.val] w (RetMc 3 w m.dat) := by
  unfold Mc.val Mc.cells
  go_enter Try.func41, Try.ntmps41
  go_wp2_with fail
  refine (toIntS _ _ _ _ (h.1.ext (by repeat (first | with_reducible assumption | with_reducible exact Ext.refl _ | with_reducible apply Ext.drewN | with_reducible apply Ext.drew | with_reducible apply Ext.alloc | with_reducible refine Ext.set ?_ (by first | (simp; done) | (simp; omega)) _ | with_reducible refine Ext.next ?_ (by with_reducible assumption)))) n0).mono ?_
  rintro e w1 ⟨B0, j0, rfl, o0, hw1⟩
  obtain ⟨hc1, hf1⟩ := bcell_ hw1
  have hz1 : w.heap.size + 1 + 1 < w1.heap.size := by have := hw1.size; simp at this; omega
  have hy1 : w.heap.size + 1 < w1.heap.size := by omega
  have hx1 : w.heap.size < w1.heap.size := by omega
  go_wp2_with fail
  refine (toIntS _ _ _ _ (h.2.1.ext (by repeat (first | with_reducible assumption | with_reducible exact Ext.refl _ | with_reducible apply Ext.drewN | with_reducible apply Ext.drew | with_reducible apply Ext.alloc | with_reducible refine Ext.set ?_ (by first | (simp; done) | (simp; omega)) _ | with_reducible refine Ext.next ?_ (by with_reducible assumption)))) n2).mono ?_
  rintro e w2 ⟨B2, j2, rfl, o2, hw2⟩
  obtain ⟨hc2, hf2⟩ := bcell_ hw2
  have hz2 : w.heap.size + 1 + 1 < w2.heap.size := by have := hw2.size; simp at this; omega
  have hy2 : w.heap.size + 1 < w2.heap.size := by omega
  have hx2 : w.heap.size < w2.heap.size := by omega
  go_wp2_with fail
  refine (toIntS _ _ _ _ (h.2.2.1.ext (by repeat (first | with_reducible assumption | with_reducible exact Ext.refl _ | with_reducible apply Ext.drewN | with_reducible apply Ext.drew | with_reducible apply Ext.alloc | with_reducible refine Ext.set ?_ (by first | (simp; done) | (simp; omega)) _ | with_reducible refine Ext.next ?_ (by with_reducible assumption)))) n7).mono ?_
  rintro e w3 ⟨B7, j7, rfl, o7, hw3⟩
  obtain ⟨hc3, hf3⟩ := bcell_ hw3
  have hz3 : w.heap.size + 1 + 1 < w3.heap.size := by have := hw3.size; simp at this; omega
  have hy3 : w.heap.size + 1 < w3.heap.size := by omega
  have hx3 : w.heap.size < w3.heap.size := by omega
  go_wp2_with fail
  refine (toIntS _ _ _ _ (h.2.2.2.ext (by repeat (first | with_reducible assumption | with_reducible exact Ext.refl _ | with_reducible apply Ext.drewN | with_reducible apply Ext.drew | with_reducible apply Ext.alloc | with_reducible refine Ext.set ?_ (by first | (simp; done) | (simp; omega)) _ | with_reducible refine Ext.next ?_ (by with_reducible assumption)))) n8).mono ?_
  rintro e w4 ⟨B8, j8, rfl, o8, hw4⟩
  obtain ⟨hc4, hf4⟩ := bcell_ hw4
  have hz4 : w.heap.size + 1 + 1 < w4.heap.size := by have := hw4.size; simp at this; omega
  have hy4 : w.heap.size + 1 < w4.heap.size := by omega
  have hx4 : w.heap.size < w4.heap.size := by omega
  have hr1 : ∀ b, (b = w.heap.size + 1 ∨ b = w.heap.size + 1 + 1) → b < w.heap.size + 1 + 1 + 1 := fun b hb => by omega
  have hr2 : ∀ b, (b = w.heap.size + 1 ∨ b = w.heap.size + 1 + 1) → b < w1.heap.size := fun b hb => by omega
  have hr3 : ∀ b, (b = w.heap.size + 1 ∨ b = w.heap.size + 1 + 1) → b < w2.heap.size := fun b hb => by omega
  have hr4 : ∀ b, (b = w.heap.size + 1 ∨ b = w.heap.size + 1 + 1) → b < w3.heap.size := fun b hb => by omega
  have HR1 := hid hr1
  have HR2 := hid hr2
  have HR3 := hid hr3
  have HR4 := hid hr4
  clear hr1 hr2 hr3 hr4
  go_wp2
  refine bodyPost_ret (v := .agg #[.slice B0 m.regs.length j0, .int .i64 m.pc, .slice B2 m.mem.length j2, .int .i64 m.save, .bool m.let_, .bool m.waits, .int .i64 m.halt, .slice B7 m.ins.length j7, .slice B8 m.outs.length j8, .int .i64 m.count]) (by simp [results, Try.results41, go_sem, *]) rfl ⟨⟨B0, j0, m.regs, m.pc, B2, j2, m.mem, m.save, m.let_, m.waits, m.halt, B7, j7, m.ins, B8, j8, m.outs, m.count⟩, rfl, rfl, ⟨?_, ?_, ?_, ?_⟩, (by repeat (first | with_reducible assumption | with_reducible exact Ext.refl _ | with_reducible apply Ext.drewN | with_reducible apply Ext.drew | with_reducible apply Ext.alloc | with_reducible refine Ext.set ?_ (by first | (simp; done) | (simp; omega)) _ | with_reducible refine Ext.next ?_ (by with_reducible assumption)))⟩
  · exact o0.upd_lo (S := fun b => b = w.heap.size + 1 ∨ b = w.heap.size + 1 + 1) (by repeat (first | with_reducible assumption | with_reducible exact Upd.refl _ _ | with_reducible refine Upd.set ?_ (by first | (left; simp; done) | (left; omega)) _ | with_reducible refine Upd.next ?_ (Upd.of_ext (by with_reducible assumption)))) (by simp) (by simp; omega)
  · exact o2.upd_lo (S := fun b => b = w.heap.size + 1 ∨ b = w.heap.size + 1 + 1) (by repeat (first | with_reducible assumption | with_reducible exact Upd.refl _ _ | with_reducible refine Upd.set ?_ (by first | (left; simp; done) | (left; omega)) _ | with_reducible refine Upd.next ?_ (Upd.of_ext (by with_reducible assumption)))) (by simpa using HR2.out) (by simp; omega)
  · exact o7.upd_lo (S := fun b => b = w.heap.size + 1 ∨ b = w.heap.size + 1 + 1) (by repeat (first | with_reducible assumption | with_reducible exact Upd.refl _ _ | with_reducible refine Upd.set ?_ (by first | (left; simp; done) | (left; omega)) _ | with_reducible refine Upd.next ?_ (Upd.of_ext (by with_reducible assumption)))) (by simpa using HR3.out) (by simp; omega)
  · exact o8.upd_lo (S := fun b => b = w.heap.size + 1 ∨ b = w.heap.size + 1 + 1) (by repeat (first | with_reducible assumption | with_reducible exact Upd.refl _ _ | with_reducible refine Upd.set ?_ (by first | (left; simp; done) | (left; omega)) _ | with_reducible refine Upd.next ?_ (Upd.of_ext (by with_reducible assumption)))) (by simpa using HR4.out) (by simp; omega)

theorem eqMach (m m' : Mc) (w : World) (h : RMc 3 w m) (h' : RMc 3 w m') (hd : m.dat = m'.dat) (n0 : m.regs.length < 4611686018427387904) (n2 : m.mem.length < 4611686018427387904) (n7 : m.ins.length < 4611686018427387904) (n8 : m.outs.length < 4611686018427387904) :
    Calls Try.prog 42 #[m.val, m'.val] w fun e w' => e = .returned (.bool true) ∧ Ext w w' := by
  obtain ⟨A0, k0, regs, pc, A2, k2, mem, save, let_, waits, halt, A7, k7, ins, A8, k8, outs, count⟩ := m
  obtain ⟨A0', k0', regs', pc', A2', k2', mem', save', let_', waits', halt', A7', k7', ins', A8', k8', outs', count'⟩ := m'
  unfold Mc.dat at hd
  simp only [Prod.mk.injEq] at hd
  obtain ⟨rfl, rfl, rfl, rfl, rfl, rfl, rfl, rfl, rfl, rfl⟩ := hd
  unfold Mc.val Mc.cells
  simp only at n0 n2 n7 n8 ⊢
  have hq : (let_ != let_) = false := by simp
  have hq' : (waits != waits) = false := by simp
  go_enter Try.func42, Try.ntmps42
  go_wp2_with fail
  refine (eqIntS _ _ _ _ _ regs _ (h.1.ext (by repeat (first | with_reducible assumption | with_reducible exact Ext.refl _ | with_reducible apply Ext.drewN | with_reducible apply Ext.drew | with_reducible apply Ext.alloc | with_reducible refine Ext.set ?_ (by first | (simp; done) | (simp; omega)) _ | with_reducible refine Ext.next ?_ (by with_reducible assumption)))) (h'.1.ext (by repeat (first | with_reducible assumption | with_reducible exact Ext.refl _ | with_reducible apply Ext.drewN | with_reducible apply Ext.drew | with_reducible apply Ext.alloc | with_reducible refine Ext.set ?_ (by first | (simp; done) | (simp; omega)) _ | with_reducible refine Ext.next ?_ (by with_reducible assumption)))) rfl n0).mono ?_
  rintro e w1 ⟨rfl, hw1⟩
  obtain ⟨hc1, hf1⟩ := bcell_ hw1
  have hz1 : w.heap.size + 1 < w1.heap.size := by have := hw1.size; simp at this; omega
  have hx1 : w.heap.size < w1.heap.size := by omega
  go_wp2_with fail
  refine (eqIntS _ _ _ _ _ mem _ (h.2.1.ext (by repeat (first | with_reducible assumption | with_reducible exact Ext.refl _ | with_reducible apply Ext.drewN | with_reducible apply Ext.drew | with_reducible apply Ext.alloc | with_reducible refine Ext.set ?_ (by first | (simp; done) | (simp; omega)) _ | with_reducible refine Ext.next ?_ (by with_reducible assumption)))) (h'.2.1.ext (by repeat (first | with_reducible assumption | with_reducible exact Ext.refl _ | with_reducible apply Ext.drewN | with_reducible apply Ext.drew | with_reducible apply Ext.alloc | with_reducible refine Ext.set ?_ (by first | (simp; done) | (simp; omega)) _ | with_reducible refine Ext.next ?_ (by with_reducible assumption)))) rfl n2).mono ?_
  rintro e w2 ⟨rfl, hw2⟩
  obtain ⟨hc2, hf2⟩ := bcell_ hw2
  have hz2 := lt_ext hw2 hz1
  have hx2 := lt_ext hw2 hx1
  go_wp2_with fail
  refine (eqIntS _ _ _ _ _ ins _ (h.2.2.1.ext (by repeat (first | with_reducible assumption | with_reducible exact Ext.refl _ | with_reducible apply Ext.drewN | with_reducible apply Ext.drew | with_reducible apply Ext.alloc | with_reducible refine Ext.set ?_ (by first | (simp; done) | (simp; omega)) _ | with_reducible refine Ext.next ?_ (by with_reducible assumption)))) (h'.2.2.1.ext (by repeat (first | with_reducible assumption | with_reducible exact Ext.refl _ | with_reducible apply Ext.drewN | with_reducible apply Ext.drew | with_reducible apply Ext.alloc | with_reducible refine Ext.set ?_ (by first | (simp; done) | (simp; omega)) _ | with_reducible refine Ext.next ?_ (by with_reducible assumption)))) rfl n7).mono ?_
  rintro e w3 ⟨rfl, hw3⟩
  obtain ⟨hc3, hf3⟩ := bcell_ hw3
  have hz3 := lt_ext hw3 hz2
  have hx3 := lt_ext hw3 hx2
  go_wp2_with fail
  refine (eqIntS _ _ _ _ _ outs _ (h.2.2.2.ext (by repeat (first | with_reducible assumption | with_reducible exact Ext.refl _ | with_reducible apply Ext.drewN | with_reducible apply Ext.drew | with_reducible apply Ext.alloc | with_reducible refine Ext.set ?_ (by first | (simp; done) | (simp; omega)) _ | with_reducible refine Ext.next ?_ (by with_reducible assumption)))) (h'.2.2.2.ext (by repeat (first | with_reducible assumption | with_reducible exact Ext.refl _ | with_reducible apply Ext.drewN | with_reducible apply Ext.drew | with_reducible apply Ext.alloc | with_reducible refine Ext.set ?_ (by first | (simp; done) | (simp; omega)) _ | with_reducible refine Ext.next ?_ (by with_reducible assumption)))) rfl n8).mono ?_
  rintro e w4 ⟨rfl, hw4⟩
  obtain ⟨hc4, hf4⟩ := bcell_ hw4
  have hz4 := lt_ext hw4 hz3
  have hx4 := lt_ext hw4 hx3
  go_wp2
  go_ret
  exact ⟨rfl, (by repeat (first | with_reducible assumption | with_reducible exact Ext.refl _ | with_reducible apply Ext.drewN | with_reducible apply Ext.drew | with_reducible apply Ext.alloc | with_reducible refine Ext.set ?_ (by first | (simp; done) | (simp; omega)) _ | with_reducible refine Ext.next ?_ (by with_reducible assumption)))⟩
end Go.Proofs.Ytabbjnamlkphmaa
