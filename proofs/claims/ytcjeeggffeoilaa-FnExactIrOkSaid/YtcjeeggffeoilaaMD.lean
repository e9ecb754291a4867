/- Contracts of the laws' own helpers over machines, and of MchOk. Conditions: lengths that a machine can hold. -/
import Derived.Test.YtcjeeggffeoilaaMC
import Derived.Test.YtcjeeggffeoilaaW
namespace Go.Proofs.Ytcjeeggffeoilaa
open Go Go.RowKit
set_option linter.unusedVariables false
set_option linter.unusedSimpArgs false

theorem bcell_ {W w1 : World} (hb : Ext W w1) : (∀ b o, b < W.heap.size → w1.cell? ⟨b, o, none⟩ = W.cell? ⟨b, o, none⟩) ∧ (∀ b o, b < W.heap.size → w1.frozen? ⟨b, o, none⟩ = W.frozen? ⟨b, o, none⟩) :=
  ⟨fun b o h => hb.cell (p := ⟨b, o, none⟩) h, fun b o h => hb.frozen (p := ⟨b, o, none⟩) h⟩

def totMc (m : Mc) : Nat := m.regs.length + m.mem.length + m.ins.length + m.outs.length
theorem szF_part {left : Int} {a b : Nat} (h : (a : Int) ≤ left) : szF left (a + b) = szF (left - a) b := by
  unfold szF
  split <;> split <;> omega



def Mc.dat (m : Mc) := (m.regs, m.pc, m.mem, m.save, m.let_, m.waits, m.halt, m.ins, m.outs, m.count)
def RMc (TI : TypeId) (w : World) (m : Mc) : Prop := RI TI w m.A0 m.regs ∧ RI TI w m.A2 m.mem ∧ RI TI w m.A7 m.ins ∧ RI TI w m.A8 m.outs
def OMc (TI : TypeId) (w : World) (lo : Nat) (m : Mc) : Prop := OI TI w lo m.A0 m.k0 m.regs ∧ OI TI w lo m.A2 m.k2 m.mem ∧ OI TI w lo m.A7 m.k7 m.ins ∧ OI TI w lo m.A8 m.k8 m.outs
theorem OMc.rm {TI : TypeId} {w : World} {lo : Nat} {m : Mc} (h : OMc TI w lo m) : RMc TI w m := ⟨h.1.ri, h.2.1.ri, h.2.2.1.ri, h.2.2.2.ri⟩
theorem RMc.ext {TI : TypeId} {w w' : World} {m : Mc} (h : RMc TI w m) (he : Ext w w') : RMc TI w' m := ⟨h.1.ext he, h.2.1.ext he, h.2.2.1.ext he, h.2.2.2.ext he⟩
theorem OI.upd_lo {TI : TypeId} {w w' : World} {lo lo' k : Nat} {A : Option Addr} {xs : List Int} {S : Nat → Prop} (h : OI TI w lo A k xs) (he : Upd S w w') (hs : ∀ b, S b → b < lo) (hl : lo' ≤ lo) : OI TI w' lo' A k xs :=
  own_base (own_upd' h he fun b hb hb' => by have := (own_atB h hb).1; have := hs b hb'; omega) hl
/-- A machine of the same data, in memory of its own. -/
def RetMc (TI : TypeId) (w : World) (d : List Int × Int × List Int × Int × Bool × Bool × Int × List Int × List Int × Int) (e : Ending) (w' : World) : Prop := ∃ m : Mc, e = .returned m.val ∧ m.dat = d ∧ OMc TI w' w.heap.size m ∧ Ext w w'



theorem eqMach (m m' : Mc) (w : World) (h : RMc 3 w m) (h' : RMc 3 w m') (hd : m.dat = m'.dat) (n0 : m.regs.length < 4611686018427387904) (n2 : m.mem.length < 4611686018427387904) (n7 : m.ins.length < 4611686018427387904) (n8 : m.outs.length < 4611686018427387904) :
    Calls Try.prog 14 #[m.val, m'.val] w fun e w' => e = .returned (.bool true) ∧ Ext w w' := by
  obtain ⟨A0, k0, regs, pc, A2, k2, mem, save, let_, waits, halt, A7, k7, ins, A8, k8, outs, count⟩ := m
  obtain ⟨A0', k0', regs', pc', A2', k2', mem', save', let_', waits', halt', A7', k7', ins', A8', k8', outs', count'⟩ := m'
  unfold Mc.dat at hd
  simp only [Prod.mk.injEq] at hd
  obtain ⟨rfl, rfl, rfl, rfl, rfl, rfl, rfl, rfl, rfl, rfl⟩ := hd
  unfold Mc.val Mc.cells
  simp only at n0 n2 n7 n8 ⊢
  have hq : (let_ != let_) = false := by simp
  have hq' : (waits != waits) = false := by simp
  go_enter Try.func14, Try.ntmps14
  go_wp2_with fail
  refine (eqIntS _ _ _ _ _ regs _ (h.1.ext (by repeat (first | with_reducible assumption | with_reducible exact Ext.refl _ | with_reducible apply Ext.drewN | with_reducible apply Ext.drew | with_reducible apply Ext.alloc | with_reducible refine Ext.set ?_ (by first | (simp; done) | (simp; omega)) _ | with_reducible refine Ext.next ?_ (by with_reducible assumption)))) (h'.1.ext (by repeat (first | with_reducible assumption | with_reducible exact Ext.refl _ | with_reducible apply Ext.drewN | with_reducible apply Ext.drew | with_reducible apply Ext.alloc | with_reducible refine Ext.set ?_ (by first | (simp; done) | (simp; omega)) _ | with_reducible refine Ext.next ?_ (by with_reducible assumption)))) rfl n0).mono ?_
  rintro e w1 ⟨rfl, hw1⟩
  obtain ⟨hc1, hf1⟩ := bcell_ hw1
  have hz1 : w.heap.size + 1 < w1.heap.size := by have := hw1.size; simp at this; omega
  have hx1 : w.heap.size < w1.heap.size := by omega
  go_wp2_with fail
  refine (eqIntS _ _ _ _ _ mem _ (h.2.1.ext (by repeat (first | with_reducible assumption | with_reducible exact Ext.refl _ | with_reducible apply Ext.drewN | with_reducible apply Ext.drew | with_reducible apply Ext.alloc | with_reducible refine Ext.set ?_ (by first | (simp; done) | (simp; omega)) _ | with_reducible refine Ext.next ?_ (by with_reducible assumption)))) (h'.2.1.ext (by repeat (first | with_reducible assumption | with_reducible exact Ext.refl _ | with_reducible apply Ext.drewN | with_reducible apply Ext.drew | with_reducible apply Ext.alloc | with_reducible refine Ext.set ?_ (by first | (simp; done) | (simp; omega)) _ | with_reducible refine Ext.next ?_ (by with_reducible assumption)))) rfl n2).mono ?_
  rintro e w2 ⟨rfl, hw2⟩
  obtain ⟨hc2, hf2⟩ := bcell_ hw2
  have hz2 := lt_ext hw2 hz1
  have hx2 := lt_ext hw2 hx1
  go_wp2_with fail
  refine (eqIntS _ _ _ _ _ ins _ (h.2.2.1.ext (by repeat (first | with_reducible assumption | with_reducible exact Ext.refl _ | with_reducible apply Ext.drewN | with_reducible apply Ext.drew | with_reducible apply Ext.alloc | with_reducible refine Ext.set ?_ (by first | (simp; done) | (simp; omega)) _ | with_reducible refine Ext.next ?_ (by with_reducible assumption)))) (h'.2.2.1.ext (by repeat (first | with_reducible assumption | with_reducible exact Ext.refl _ | with_reducible apply Ext.drewN | with_reducible apply Ext.drew | with_reducible apply Ext.alloc | with_reducible refine Ext.set ?_ (by first | (simp; done) | (simp; omega)) _ | with_reducible refine Ext.next ?_ (by with_reducible assumption)))) rfl n7).mono ?_
  rintro e w3 ⟨rfl, hw3⟩
  obtain ⟨hc3, hf3⟩ := bcell_ hw3
  have hz3 := lt_ext hw3 hz2
  have hx3 := lt_ext hw3 hx2
  go_wp2_with fail
  refine (eqIntS _ _ _ _ _ outs _ (h.2.2.2.ext (by repeat (first | with_reducible assumption | with_reducible exact Ext.refl _ | with_reducible apply Ext.drewN | with_reducible apply Ext.drew | with_reducible apply Ext.alloc | with_reducible refine Ext.set ?_ (by first | (simp; done) | (simp; omega)) _ | with_reducible refine Ext.next ?_ (by with_reducible assumption)))) (h'.2.2.2.ext (by repeat (first | with_reducible assumption | with_reducible exact Ext.refl _ | with_reducible apply Ext.drewN | with_reducible apply Ext.drew | with_reducible apply Ext.alloc | with_reducible refine Ext.set ?_ (by first | (simp; done) | (simp; omega)) _ | with_reducible refine Ext.next ?_ (by with_reducible assumption)))) rfl n8).mono ?_
  rintro e w4 ⟨rfl, hw4⟩
  obtain ⟨hc4, hf4⟩ := bcell_ hw4
  have hz4 := lt_ext hw4 hz3
  have hx4 := lt_ext hw4 hx3
  go_wp2
  go_ret
  exact ⟨rfl, (by repeat (first | with_reducible assumption | with_reducible exact Ext.refl _ | with_reducible apply Ext.drewN | with_reducible apply Ext.drew | with_reducible apply Ext.alloc | with_reducible refine Ext.set ?_ (by first | (simp; done) | (simp; omega)) _ | with_reducible refine Ext.next ?_ (by with_reducible assumption)))⟩
end Go.Proofs.Ytcjeeggffeoilaa
