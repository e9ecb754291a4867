/- The law FnExactIrSame: IrSame returns what the reference's IrSame returns, for every two pieces of code, and leaves them as they are. Conditions: none. -/
import Derived.Test.YtpmipopeoiojjaaRows
import Derived.WalkKit
import Derived.ProofKit
import Derived.OpenShut
import Derived.ShutString
import Derived.ChangeOld
import Derived.Below
import Derived.Carry
import Derived.Test.YtpmipopeoiojjaaF
import Derived.Test.YtpmipopeoiojjaaK
import Derived.Test.YtpmipopeoiojjaaBV
import Derived.Deep.RegionHeld3
namespace Go.Proofs.Ytpmipopeoiojjaa.fnExactIrSame
open Go.ChangeShapes Go.WideShapes Go.ChangeAt Go.RowKit
set_option linter.unusedVariables false
set_option linter.unusedSimpArgs false

def Lies7 (w : World) (g : Nat) (b : Bk) : Prop := w.cell? ⟨g, 0, none⟩ = some (.int .i64 b.pc) ∧ w.cell? ⟨g, 1, none⟩ = some (.int .i64 b.len) ∧ w.cell? ⟨g, 2, none⟩ = some (.slice b.A b.ops.length b.c) ∧ w.cell? ⟨g, 3, none⟩ = some (.int .i64 b.end_) ∧ w.cell? ⟨g, 4, none⟩ = some (.int .i64 b.x) ∧ w.cell? ⟨g, 5, none⟩ = some (.int .i64 b.y) ∧ w.cell? ⟨g, 6, none⟩ = some (.int .i64 b.k)
theorem Lies7.ext {w w' : World} {g : Nat} {b : Bk} (h : Lies7 w g b) (he : Ext w w') : Lies7 w' g b := ⟨keep he h.1, keep he h.2.1, keep he h.2.2.1, keep he h.2.2.2.1, keep he h.2.2.2.2.1, keep he h.2.2.2.2.2.1, keep he h.2.2.2.2.2.2⟩

set_option maxRecDepth 100000 in
set_option maxHeartbeats 4000000 in
theorem walk (b0 : Bk) (b1 : Bk) (w : World) (h0 : ABk w b0) (s0 : b0.ops.length ≤ 9223372036854775807) (h1 : ABk w b1) (s1 : b1.ops.length ≤ 9223372036854775807) :
    Calls Try.prog 5 #[b0.val, b1.val] w fun e w' => e = .returned (.bool true) ∧ Ext w w' := by
  by_cases hq : (1048576 : Int) < b0.ops.length
  · have e1 := hid (szF_lt hq)
    have hb : szF 1048576 b0.ops.length < 0 := by rw [szF_lt hq]; omega
    unfold Bk.val Bk.cells
    go_enter Try.func5, Try.ntmps5
    go_wp2_with fail
    refine (szBlock b0 _ _ s0 (by omega) (by omega)).mono ?_
    rintro e w1 ⟨rfl, hw1⟩
    go_wp2
    go_ret
    exact ⟨rfl, (by repeat (first | with_reducible assumption | with_reducible exact Ext.refl _ | with_reducible apply Ext.drewN | with_reducible apply Ext.drew | with_reducible apply Ext.alloc | with_reducible refine Ext.set ?_ (by first | (simp; done) | (simp; omega)) _ | with_reducible refine Ext.next ?_ (by with_reducible assumption)))⟩
  have hb : 0 ≤ szF 1048576 b0.ops.length := by rw [szF_ge (by omega)]; omega
  have hb' : szF 1048576 b0.ops.length ≤ 1048576 := by rw [szF_ge (by omega)]; omega
  have ht0 : b0.ops.length ≤ 1048576 := by omega
  by_cases hr : szF 1048576 b0.ops.length < b1.ops.length
  · have hc : szF (szF 1048576 b0.ops.length) b1.ops.length < 0 := by rw [szF_lt hr]; omega
    clear hq hr
    unfold Bk.val Bk.cells
    go_enter Try.func5, Try.ntmps5
    go_wp2_with fail
    refine (szBlock b0 _ _ s0 (by omega) (by omega)).mono ?_
    rintro e w1 ⟨rfl, hw1⟩
    obtain ⟨hc1, hf1⟩ := bcell_ hw1
    have hz1 : w.heap.size + 1 < w1.heap.size := by have := hw1.size; simp at this; omega
    have hz0 : w.heap.size < w1.heap.size := by omega
    go_wp2_with fail
    refine (szBlock b1 _ _ s1 hb hb').mono ?_
    rintro e w2 ⟨rfl, hw2⟩
    go_wp2
    go_ret
    exact ⟨rfl, (by repeat (first | with_reducible assumption | with_reducible exact Ext.refl _ | with_reducible apply Ext.drewN | with_reducible apply Ext.drew | with_reducible apply Ext.alloc | with_reducible refine Ext.set ?_ (by first | (simp; done) | (simp; omega)) _ | with_reducible refine Ext.next ?_ (by with_reducible assumption)))⟩
  have hc : 0 ≤ szF (szF 1048576 b0.ops.length) b1.ops.length := by rw [szF_ge (by omega)]; omega
  have ht1 : b1.ops.length ≤ 1048576 := by omega
  have SM0 : Hid (∀ b : Bk, b.dat = b0.dat → b.ops.length ≤ 1048576) := hid fun b e => by
    unfold Bk.dat at e
    simp only [Prod.mk.injEq] at e
    rw [e.2.2.1]
    exact ht0
  have SM1 : Hid (∀ b : Bk, b.dat = b1.dat → b.ops.length ≤ 1048576) := hid fun b e => by
    unfold Bk.dat at e
    simp only [Prod.mk.injEq] at e
    rw [e.2.2.1]
    exact ht1
  obtain ⟨v, hv⟩ : ∃ v : Bool, irEq b0 b1 = v := ⟨_, rfl⟩
  have HV : Hid (∀ a b : Bk, a.dat = b0.dat → b.dat = b1.dat → irEq a b = v) := hid fun a b e e' => by
    rw [← hv]
    exact irEq_dat e e'
  have hne : (v != v) = false := by simp
  clear hq hr hv
  unfold Bk.val Bk.cells
  go_enter Try.func5, Try.ntmps5
  go_wp2_with fail
  refine (szBlock b0 _ _ s0 (by omega) (by omega)).mono ?_
  rintro e w1 ⟨rfl, hw1⟩
  obtain ⟨hc1, hf1⟩ := bcell_ hw1
  have hz1 : w.heap.size + 1 < w1.heap.size := by have := hw1.size; simp at this; omega
  have hz0 : w.heap.size < w1.heap.size := by omega
  have HL0 : Hid (Lies7 w1 w.heap.size b0) := hid (by unfold Lies7; refine ⟨?_, ?_, ?_, ?_, ?_, ?_, ?_⟩ <;> go_simp)
  have HL1 : Hid (Lies7 w1 (w.heap.size + 1) b1) := hid (by unfold Lies7; refine ⟨?_, ?_, ?_, ?_, ?_, ?_, ?_⟩ <;> go_simp)
  clear hc1 hf1 hz1 hz0
  obtain ⟨f0, f1, f2, f3, f4, f5, f6⟩ := HL0.out
  obtain ⟨g0, g1, g2, g3, g4, g5, g6⟩ := HL1.out
  have z0 : w.heap.size < w1.heap.size := World.block_lt_of_cell? _ _ f0
  have z1 : w.heap.size + 1 < w1.heap.size := World.block_lt_of_cell? _ _ g0
  go_wp2_with fail
  refine (szBlock b1 _ _ s1 hb hb').mono ?_
  rintro e w2 ⟨rfl, hw2⟩
  replace HL0 := hid (HL0.out.ext (show Ext _ w2 from (by repeat (first | with_reducible assumption | with_reducible exact Ext.refl _ | with_reducible apply Ext.drewN | with_reducible apply Ext.drew | with_reducible apply Ext.alloc | with_reducible refine Ext.set ?_ (by first | (simp; done) | (simp; omega)) _ | with_reducible refine Ext.next ?_ (by with_reducible assumption)))))
  replace HL1 := hid (HL1.out.ext (show Ext _ w2 from (by repeat (first | with_reducible assumption | with_reducible exact Ext.refl _ | with_reducible apply Ext.drewN | with_reducible apply Ext.drew | with_reducible apply Ext.alloc | with_reducible refine Ext.set ?_ (by first | (simp; done) | (simp; omega)) _ | with_reducible refine Ext.next ?_ (by with_reducible assumption)))))
  clear f0 f1 f2 f3 f4 f5 f6 g0 g1 g2 g3 g4 g5 g6 z0 z1
  obtain ⟨f0, f1, f2, f3, f4, f5, f6⟩ := HL0.out
  obtain ⟨g0, g1, g2, g3, g4, g5, g6⟩ := HL1.out
  have z0 : w.heap.size < w2.heap.size := World.block_lt_of_cell? _ _ f0
  have z1 : w.heap.size + 1 < w2.heap.size := World.block_lt_of_cell? _ _ g0
  go_wp2
  go_region_held3 (fun w' => w'.cell? ⟨w.heap.size, 0, none⟩ = some (.int .i64 b0.pc) ∧ w'.cell? ⟨w.heap.size, 1, none⟩ = some (.int .i64 b0.len) ∧ w'.cell? ⟨w.heap.size, 2, none⟩ = some (.slice b0.A b0.ops.length b0.c) ∧ w'.cell? ⟨w.heap.size, 3, none⟩ = some (.int .i64 b0.end_) ∧ w'.cell? ⟨w.heap.size, 4, none⟩ = some (.int .i64 b0.x) ∧ w'.cell? ⟨w.heap.size, 5, none⟩ = some (.int .i64 b0.y) ∧ w'.cell? ⟨w.heap.size, 6, none⟩ = some (.int .i64 b0.k) ∧ w'.cell? ⟨w.heap.size + 1, 0, none⟩ = some (.int .i64 b1.pc) ∧ w'.cell? ⟨w.heap.size + 1, 1, none⟩ = some (.int .i64 b1.len) ∧ w'.cell? ⟨w.heap.size + 1, 2, none⟩ = some (.slice b1.A b1.ops.length b1.c) ∧ w'.cell? ⟨w.heap.size + 1, 3, none⟩ = some (.int .i64 b1.end_) ∧ w'.cell? ⟨w.heap.size + 1, 4, none⟩ = some (.int .i64 b1.x) ∧ w'.cell? ⟨w.heap.size + 1, 5, none⟩ = some (.int .i64 b1.y) ∧ w'.cell? ⟨w.heap.size + 1, 6, none⟩ = some (.int .i64 b1.k)) (refine ⟨?_, ?_, ?_, ?_, ?_, ?_, ?_, ?_, ?_, ?_, ?_, ?_, ?_, ?_⟩ <;> ((repeat (first | with_reducible assumption | with_reducible refine keep (Ext.alloc (Ext.refl _) _) ?_ | with_reducible refine keep (Ext.drew (Ext.refl _)) ?_ | with_reducible refine keep (Ext.drewN (Ext.refl _) _) ?_ | with_reducible refine keep (by with_reducible assumption) ?_)); done)) (first
    | (go_at_call_of 17 (Value.agg #[Value.int .i64 b0.pc, Value.int .i64 b0.len, Value.slice b0.A b0.ops.length b0.c, Value.int .i64 b0.end_, Value.int .i64 b0.x, Value.int .i64 b0.y, Value.int .i64 b0.k]); (refine (toBlock b0 _ (h0.ext (by repeat (first | with_reducible assumption | with_reducible exact Ext.refl _ | with_reducible apply Ext.drewN | with_reducible apply Ext.drew | with_reducible apply Ext.alloc | with_reducible refine Ext.set ?_ (by first | (simp; done) | (simp; omega)) _ | with_reducible refine Ext.next ?_ (by with_reducible assumption)))) ht0).mono ?_); (rintro e w4 ⟨b4, rfl, hd4, ho4, hw4⟩); (have HD4 := hid hd4); clear hd4)
    | (go_at_call 17; (refine (toBlock b1 _ (h1.ext (by repeat (first | with_reducible assumption | with_reducible exact Ext.refl _ | with_reducible apply Ext.drewN | with_reducible apply Ext.drew | with_reducible apply Ext.alloc | with_reducible refine Ext.set ?_ (by first | (simp; done) | (simp; omega)) _ | with_reducible refine Ext.next ?_ (by with_reducible assumption)))) ht1).mono ?_); (rintro e w5 ⟨b5, rfl, hd5, ho5, hw5⟩); (have HD5 := hid hd5); clear hd5)
    | (go_at_call 20; (refine (specIrSame b4 b5 _ (ho4.rm.ext (by repeat (first | with_reducible assumption | with_reducible exact Ext.refl _ | with_reducible apply Ext.drewN | with_reducible apply Ext.drew | with_reducible apply Ext.alloc | with_reducible refine Ext.set ?_ (by first | (simp; done) | (simp; omega)) _ | with_reducible refine Ext.next ?_ (by with_reducible assumption)))) (ho5.rm.ext (by repeat (first | with_reducible assumption | with_reducible exact Ext.refl _ | with_reducible apply Ext.drewN | with_reducible apply Ext.drew | with_reducible apply Ext.alloc | with_reducible refine Ext.set ?_ (by first | (simp; done) | (simp; omega)) _ | with_reducible refine Ext.next ?_ (by with_reducible assumption)))) (by have := SM0.out b4 HD4.out; omega)).mono ?_); (rintro e w6 ⟨rfl, hw6⟩); rw [HV.out b4 b5 HD4.out HD5.out]))
  replace HL0 := hid (HL0.out.ext (show Ext _ w6 from (by repeat (first | with_reducible assumption | with_reducible exact Ext.refl _ | with_reducible apply Ext.drewN | with_reducible apply Ext.drew | with_reducible apply Ext.alloc | with_reducible refine Ext.set ?_ (by first | (simp; done) | (simp; omega)) _ | with_reducible refine Ext.next ?_ (by with_reducible assumption)))))
  replace HL1 := hid (HL1.out.ext (show Ext _ w6 from (by repeat (first | with_reducible assumption | with_reducible exact Ext.refl _ | with_reducible apply Ext.drewN | with_reducible apply Ext.drew | with_reducible apply Ext.alloc | with_reducible refine Ext.set ?_ (by first | (simp; done) | (simp; omega)) _ | with_reducible refine Ext.next ?_ (by with_reducible assumption)))))
  clear f0 f1 f2 f3 f4 f5 f6 g0 g1 g2 g3 g4 g5 g6 z0 z1
  obtain ⟨f0, f1, f2, f3, f4, f5, f6⟩ := HL0.out
  obtain ⟨g0, g1, g2, g3, g4, g5, g6⟩ := HL1.out
  have z0 : w.heap.size < w6.heap.size := World.block_lt_of_cell? _ _ f0
  have z1 : w.heap.size + 1 < w6.heap.size := World.block_lt_of_cell? _ _ g0
  go_wp2_with fail
  refine (toBlock b0 _ (h0.ext (by repeat (first | with_reducible assumption | with_reducible exact Ext.refl _ | with_reducible apply Ext.drewN | with_reducible apply Ext.drew | with_reducible apply Ext.alloc | with_reducible refine Ext.set ?_ (by first | (simp; done) | (simp; omega)) _ | with_reducible refine Ext.next ?_ (by with_reducible assumption)))) ht0).mono ?_
  rintro e w7 ⟨b7, rfl, hd7, ho7, hw7⟩
  have HD7 := hid hd7
  clear hd7
  unfold Bk.val Bk.cells
  replace HL0 := hid (HL0.out.ext (show Ext _ w7 from (by repeat (first | with_reducible assumption | with_reducible exact Ext.refl _ | with_reducible apply Ext.drewN | with_reducible apply Ext.drew | with_reducible apply Ext.alloc | with_reducible refine Ext.set ?_ (by first | (simp; done) | (simp; omega)) _ | with_reducible refine Ext.next ?_ (by with_reducible assumption)))))
  replace HL1 := hid (HL1.out.ext (show Ext _ w7 from (by repeat (first | with_reducible assumption | with_reducible exact Ext.refl _ | with_reducible apply Ext.drewN | with_reducible apply Ext.drew | with_reducible apply Ext.alloc | with_reducible refine Ext.set ?_ (by first | (simp; done) | (simp; omega)) _ | with_reducible refine Ext.next ?_ (by with_reducible assumption)))))
  clear f0 f1 f2 f3 f4 f5 f6 g0 g1 g2 g3 g4 g5 g6 z0 z1
  obtain ⟨f0, f1, f2, f3, f4, f5, f6⟩ := HL0.out
  obtain ⟨g0, g1, g2, g3, g4, g5, g6⟩ := HL1.out
  have z0 : w.heap.size < w7.heap.size := World.block_lt_of_cell? _ _ f0
  have z1 : w.heap.size + 1 < w7.heap.size := World.block_lt_of_cell? _ _ g0
  go_wp2_with fail
  refine (toBlock b1 _ (h1.ext (by repeat (first | with_reducible assumption | with_reducible exact Ext.refl _ | with_reducible apply Ext.drewN | with_reducible apply Ext.drew | with_reducible apply Ext.alloc | with_reducible refine Ext.set ?_ (by first | (simp; done) | (simp; omega)) _ | with_reducible refine Ext.next ?_ (by with_reducible assumption)))) ht1).mono ?_
  rintro e w8 ⟨b8, rfl, hd8, ho8, hw8⟩
  have HD8 := hid hd8
  clear hd8
  unfold Bk.val Bk.cells
  obtain ⟨hc8, hf8⟩ := bcell_ hw8
  have hz8 : w7.heap.size < w8.heap.size := by have := hw8.size; simp at this; omega
  have HL7 : Hid (Lies7 w8 w7.heap.size b7) := hid (by unfold Lies7; refine ⟨?_, ?_, ?_, ?_, ?_, ?_, ?_⟩ <;> go_simp)
  clear hc8 hf8
  replace HL0 := hid (HL0.out.ext (show Ext _ w8 from (by repeat (first | with_reducible assumption | with_reducible exact Ext.refl _ | with_reducible apply Ext.drewN | with_reducible apply Ext.drew | with_reducible apply Ext.alloc | with_reducible refine Ext.set ?_ (by first | (simp; done) | (simp; omega)) _ | with_reducible refine Ext.next ?_ (by with_reducible assumption)))))
  replace HL1 := hid (HL1.out.ext (show Ext _ w8 from (by repeat (first | with_reducible assumption | with_reducible exact Ext.refl _ | with_reducible apply Ext.drewN | with_reducible apply Ext.drew | with_reducible apply Ext.alloc | with_reducible refine Ext.set ?_ (by first | (simp; done) | (simp; omega)) _ | with_reducible refine Ext.next ?_ (by with_reducible assumption)))))
  clear f0 f1 f2 f3 f4 f5 f6 g0 g1 g2 g3 g4 g5 g6 z0 z1
  obtain ⟨f0, f1, f2, f3, f4, f5, f6⟩ := HL0.out
  obtain ⟨g0, g1, g2, g3, g4, g5, g6⟩ := HL1.out
  have z0 : w.heap.size < w8.heap.size := World.block_lt_of_cell? _ _ f0
  have z1 : w.heap.size + 1 < w8.heap.size := World.block_lt_of_cell? _ _ g0
  obtain ⟨p0, p1, p2, p3, p4, p5, p6⟩ := HL7.out
  go_wp2_with fail
  refine (implIrSame b7 b8 _ (ho7.rm.ext (by repeat (first | with_reducible assumption | with_reducible exact Ext.refl _ | with_reducible apply Ext.drewN | with_reducible apply Ext.drew | with_reducible apply Ext.alloc | with_reducible refine Ext.set ?_ (by first | (simp; done) | (simp; omega)) _ | with_reducible refine Ext.next ?_ (by with_reducible assumption)))) (ho8.rm.ext (by repeat (first | with_reducible assumption | with_reducible exact Ext.refl _ | with_reducible apply Ext.drewN | with_reducible apply Ext.drew | with_reducible apply Ext.alloc | with_reducible refine Ext.set ?_ (by first | (simp; done) | (simp; omega)) _ | with_reducible refine Ext.next ?_ (by with_reducible assumption)))) (by have := SM0.out b7 HD7.out; omega)).mono ?_
  rintro e w9 ⟨rfl, hw9⟩
  rw [HV.out b7 b8 HD7.out HD8.out]
  obtain ⟨hc9, hf9⟩ := bcell_ hw9
  have hz9 : w8.heap.size < w9.heap.size := by have := hw9.size; simp at this; omega
  have HL8 : Hid (Lies7 w9 w8.heap.size b8) := hid (by unfold Lies7; refine ⟨?_, ?_, ?_, ?_, ?_, ?_, ?_⟩ <;> go_simp)
  replace HL7 := hid (HL7.out.ext (show Ext _ w9 from (by repeat (first | with_reducible assumption | with_reducible exact Ext.refl _ | with_reducible apply Ext.drewN | with_reducible apply Ext.drew | with_reducible apply Ext.alloc | with_reducible refine Ext.set ?_ (by first | (simp; done) | (simp; omega)) _ | with_reducible refine Ext.next ?_ (by with_reducible assumption)))))
  clear hc9 hf9 p0 p1 p2 p3 p4 p5 p6 hz8
  replace HL0 := hid (HL0.out.ext (show Ext _ w9 from (by repeat (first | with_reducible assumption | with_reducible exact Ext.refl _ | with_reducible apply Ext.drewN | with_reducible apply Ext.drew | with_reducible apply Ext.alloc | with_reducible refine Ext.set ?_ (by first | (simp; done) | (simp; omega)) _ | with_reducible refine Ext.next ?_ (by with_reducible assumption)))))
  replace HL1 := hid (HL1.out.ext (show Ext _ w9 from (by repeat (first | with_reducible assumption | with_reducible exact Ext.refl _ | with_reducible apply Ext.drewN | with_reducible apply Ext.drew | with_reducible apply Ext.alloc | with_reducible refine Ext.set ?_ (by first | (simp; done) | (simp; omega)) _ | with_reducible refine Ext.next ?_ (by with_reducible assumption)))))
  clear f0 f1 f2 f3 f4 f5 f6 g0 g1 g2 g3 g4 g5 g6 z0 z1
  obtain ⟨f0, f1, f2, f3, f4, f5, f6⟩ := HL0.out
  obtain ⟨g0, g1, g2, g3, g4, g5, g6⟩ := HL1.out
  have z0 : w.heap.size < w9.heap.size := World.block_lt_of_cell? _ _ f0
  have z1 : w.heap.size + 1 < w9.heap.size := World.block_lt_of_cell? _ _ g0
  obtain ⟨p0, p1, p2, p3, p4, p5, p6⟩ := HL7.out
  have zp : w7.heap.size < w9.heap.size := World.block_lt_of_cell? _ _ p0
  clear hb hb' hc
  go_wp2
  go_region_held3 (fun w' => w'.cell? ⟨w.heap.size, 0, none⟩ = some (.int .i64 b0.pc) ∧ w'.cell? ⟨w.heap.size, 1, none⟩ = some (.int .i64 b0.len) ∧ w'.cell? ⟨w.heap.size, 2, none⟩ = some (.slice b0.A b0.ops.length b0.c) ∧ w'.cell? ⟨w.heap.size, 3, none⟩ = some (.int .i64 b0.end_) ∧ w'.cell? ⟨w.heap.size, 4, none⟩ = some (.int .i64 b0.x) ∧ w'.cell? ⟨w.heap.size, 5, none⟩ = some (.int .i64 b0.y) ∧ w'.cell? ⟨w.heap.size, 6, none⟩ = some (.int .i64 b0.k) ∧ w'.cell? ⟨w7.heap.size, 0, none⟩ = some (.int .i64 b7.pc) ∧ w'.cell? ⟨w7.heap.size, 1, none⟩ = some (.int .i64 b7.len) ∧ w'.cell? ⟨w7.heap.size, 2, none⟩ = some (.slice b7.A b7.ops.length b7.c) ∧ w'.cell? ⟨w7.heap.size, 3, none⟩ = some (.int .i64 b7.end_) ∧ w'.cell? ⟨w7.heap.size, 4, none⟩ = some (.int .i64 b7.x) ∧ w'.cell? ⟨w7.heap.size, 5, none⟩ = some (.int .i64 b7.y) ∧ w'.cell? ⟨w7.heap.size, 6, none⟩ = some (.int .i64 b7.k)) (refine ⟨?_, ?_, ?_, ?_, ?_, ?_, ?_, ?_, ?_, ?_, ?_, ?_, ?_, ?_⟩ <;> ((repeat (first | with_reducible assumption | with_reducible refine keep (Ext.alloc (Ext.refl _) _) ?_ | with_reducible refine keep (Ext.drew (Ext.refl _)) ?_ | with_reducible refine keep (Ext.drewN (Ext.refl _) _) ?_ | with_reducible refine keep (by with_reducible assumption) ?_)); done)) (first
    | (go_at_call 17; (refine (toBlock b0 _ (h0.ext (by repeat (first | with_reducible assumption | with_reducible exact Ext.refl _ | with_reducible apply Ext.drewN | with_reducible apply Ext.drew | with_reducible apply Ext.alloc | with_reducible refine Ext.set ?_ (by first | (simp; done) | (simp; omega)) _ | with_reducible refine Ext.next ?_ (by with_reducible assumption)))) ht0).mono ?_); (rintro e w10 ⟨b10, rfl, hd10, ho10, hw10⟩); (have HD10 := hid hd10); clear hd10)
    | (go_at_call 19; (refine (eqBlock b7 b10 _ (ho7.rm.ext (by repeat (first | with_reducible assumption | with_reducible exact Ext.refl _ | with_reducible apply Ext.drewN | with_reducible apply Ext.drew | with_reducible apply Ext.alloc | with_reducible refine Ext.set ?_ (by first | (simp; done) | (simp; omega)) _ | with_reducible refine Ext.next ?_ (by with_reducible assumption)))) (ho10.rm.ext (by repeat (first | with_reducible assumption | with_reducible exact Ext.refl _ | with_reducible apply Ext.drewN | with_reducible apply Ext.drew | with_reducible apply Ext.alloc | with_reducible refine Ext.set ?_ (by first | (simp; done) | (simp; omega)) _ | with_reducible refine Ext.next ?_ (by with_reducible assumption)))) (HD7.out.trans HD10.out.symm) (by have := SM0.out b7 HD7.out; omega)).mono ?_); (rintro e w11 ⟨rfl, hw11⟩)))
  replace HL8 := hid (HL8.out.ext (show Ext _ w11 from (by repeat (first | with_reducible assumption | with_reducible exact Ext.refl _ | with_reducible apply Ext.drewN | with_reducible apply Ext.drew | with_reducible apply Ext.alloc | with_reducible refine Ext.set ?_ (by first | (simp; done) | (simp; omega)) _ | with_reducible refine Ext.next ?_ (by with_reducible assumption)))))
  clear p0 p1 p2 p3 p4 p5 p6 zp hz9
  replace HL0 := hid (HL0.out.ext (show Ext _ w11 from (by repeat (first | with_reducible assumption | with_reducible exact Ext.refl _ | with_reducible apply Ext.drewN | with_reducible apply Ext.drew | with_reducible apply Ext.alloc | with_reducible refine Ext.set ?_ (by first | (simp; done) | (simp; omega)) _ | with_reducible refine Ext.next ?_ (by with_reducible assumption)))))
  replace HL1 := hid (HL1.out.ext (show Ext _ w11 from (by repeat (first | with_reducible assumption | with_reducible exact Ext.refl _ | with_reducible apply Ext.drewN | with_reducible apply Ext.drew | with_reducible apply Ext.alloc | with_reducible refine Ext.set ?_ (by first | (simp; done) | (simp; omega)) _ | with_reducible refine Ext.next ?_ (by with_reducible assumption)))))
  clear f0 f1 f2 f3 f4 f5 f6 g0 g1 g2 g3 g4 g5 g6 z0 z1
  obtain ⟨f0, f1, f2, f3, f4, f5, f6⟩ := HL0.out
  obtain ⟨g0, g1, g2, g3, g4, g5, g6⟩ := HL1.out
  have z0 : w.heap.size < w11.heap.size := World.block_lt_of_cell? _ _ f0
  have z1 : w.heap.size + 1 < w11.heap.size := World.block_lt_of_cell? _ _ g0
  obtain ⟨p0, p1, p2, p3, p4, p5, p6⟩ := HL8.out
  have zp : w8.heap.size < w11.heap.size := World.block_lt_of_cell? _ _ p0
  go_wp2
  go_region_held3 (fun w' => w'.cell? ⟨w.heap.size + 1, 0, none⟩ = some (.int .i64 b1.pc) ∧ w'.cell? ⟨w.heap.size + 1, 1, none⟩ = some (.int .i64 b1.len) ∧ w'.cell? ⟨w.heap.size + 1, 2, none⟩ = some (.slice b1.A b1.ops.length b1.c) ∧ w'.cell? ⟨w.heap.size + 1, 3, none⟩ = some (.int .i64 b1.end_) ∧ w'.cell? ⟨w.heap.size + 1, 4, none⟩ = some (.int .i64 b1.x) ∧ w'.cell? ⟨w.heap.size + 1, 5, none⟩ = some (.int .i64 b1.y) ∧ w'.cell? ⟨w.heap.size + 1, 6, none⟩ = some (.int .i64 b1.k) ∧ w'.cell? ⟨w8.heap.size, 0, none⟩ = some (.int .i64 b8.pc) ∧ w'.cell? ⟨w8.heap.size, 1, none⟩ = some (.int .i64 b8.len) ∧ w'.cell? ⟨w8.heap.size, 2, none⟩ = some (.slice b8.A b8.ops.length b8.c) ∧ w'.cell? ⟨w8.heap.size, 3, none⟩ = some (.int .i64 b8.end_) ∧ w'.cell? ⟨w8.heap.size, 4, none⟩ = some (.int .i64 b8.x) ∧ w'.cell? ⟨w8.heap.size, 5, none⟩ = some (.int .i64 b8.y) ∧ w'.cell? ⟨w8.heap.size, 6, none⟩ = some (.int .i64 b8.k)) (refine ⟨?_, ?_, ?_, ?_, ?_, ?_, ?_, ?_, ?_, ?_, ?_, ?_, ?_, ?_⟩ <;> ((repeat (first | with_reducible assumption | with_reducible refine keep (Ext.alloc (Ext.refl _) _) ?_ | with_reducible refine keep (Ext.drew (Ext.refl _)) ?_ | with_reducible refine keep (Ext.drewN (Ext.refl _) _) ?_ | with_reducible refine keep (by with_reducible assumption) ?_)); done)) (first
    | (go_at_call 17; (refine (toBlock b1 _ (h1.ext (by repeat (first | with_reducible assumption | with_reducible exact Ext.refl _ | with_reducible apply Ext.drewN | with_reducible apply Ext.drew | with_reducible apply Ext.alloc | with_reducible refine Ext.set ?_ (by first | (simp; done) | (simp; omega)) _ | with_reducible refine Ext.next ?_ (by with_reducible assumption)))) ht1).mono ?_); (rintro e w12 ⟨b12, rfl, hd12, ho12, hw12⟩); (have HD12 := hid hd12); clear hd12)
    | (go_at_call 19; (refine (eqBlock b8 b12 _ (ho8.rm.ext (by repeat (first | with_reducible assumption | with_reducible exact Ext.refl _ | with_reducible apply Ext.drewN | with_reducible apply Ext.drew | with_reducible apply Ext.alloc | with_reducible refine Ext.set ?_ (by first | (simp; done) | (simp; omega)) _ | with_reducible refine Ext.next ?_ (by with_reducible assumption)))) (ho12.rm.ext (by repeat (first | with_reducible assumption | with_reducible exact Ext.refl _ | with_reducible apply Ext.drewN | with_reducible apply Ext.drew | with_reducible apply Ext.alloc | with_reducible refine Ext.set ?_ (by first | (simp; done) | (simp; omega)) _ | with_reducible refine Ext.next ?_ (by with_reducible assumption)))) (HD8.out.trans HD12.out.symm) (by have := SM1.out b8 HD8.out; omega)).mono ?_); (rintro e w13 ⟨rfl, hw13⟩)))
  go_wp2
  go_ret
  exact ⟨rfl, (by repeat (first | with_reducible assumption | with_reducible exact Ext.refl _ | with_reducible apply Ext.drewN | with_reducible apply Ext.drew | with_reducible apply Ext.alloc | with_reducible refine Ext.set ?_ (by first | (simp; done) | (simp; omega)) _ | with_reducible refine Ext.next ?_ (by with_reducible assumption)))⟩

set_option maxRecDepth 100000 in
theorem lifted (os : Os) (started : os.Started) (H : Type) (enc : TypeId × Value → H) :
    ReturnsInHanded {} Try.checked os 5 .any (Rows.fnExactIrSameSpec.pre6 enc Try.prog Try.f5 Rows.fnExactIrSameRow.domain false) (Rows.fnExactIrSameSpec.post enc Try.prog Try.f5 false true false false) := by
  refine returnsInHanded_of_change (C := Try.checked) ownKnob_ started (by kernel_rfl) Try.func5
    (ChangeSpec.witness6 (enc := enc) (C := Try.checked) false ⟨#[], #[.agg #[.int .i64 0, .int .i64 0, .slice none 0 0, .int .i64 0, .int .i64 0, .int .i64 0, .int .i64 0], .agg #[.int .i64 0, .int .i64 0, .slice none 0 0, .int .i64 0, .int .i64 0, .int .i64 0, .int .i64 0]], []⟩ 8 (by kernel_rfl) (by kernel_rfl) (by kernel_rfl) (by kernel_rfl)) ?_
  intro W base args ds gs before hval0 hW hcnd _
  have hval : ∀ (j : Nat) t v, Try.f5.params[j]? = some t → args[j]? = some v → Value.okWide Try.prog W .any base t v := hval0
  have hW' := hW
  obtain ⟨p, q, hA0, hV, rfl, hfz, hnd⟩ := hW
  have hA : DataW.TrodAll enc Try.prog W 0 (fun _ => true) true Try.f5.params.toList args.toList ds p := hA0
  rw [Try.params5] at hA hval
  obtain ⟨v0, vs0, d0, ds0, p0, q0, hargs, rfl, rfl, g0, r0⟩ := trodAll_cons hA
  obtain ⟨v1, vs1, d1, ds1, p1, q1, rfl, rfl, rfl, g1, r1⟩ := trodAll_cons r0
  obtain ⟨rfl, rfl, rfl⟩ := trodAll_nil r1
  obtain rfl : args = #[v0, v1] := by cases args; simp_all
  obtain ⟨rfl, rfl⟩ := trodVars_none hV
  have lt0 : ∀ x ∈ p0, x.block < W.heap.size := by obtain ⟨m, hm⟩ := g0; exact DataW.trod_lt m _ _ _ hm
  obtain ⟨b0, e0, h0, s0⟩ := read_block (hval 0 36 v0 rfl rfl) g0
  subst e0
  have lt1 : ∀ x ∈ p1, x.block < W.heap.size := by obtain ⟨m, hm⟩ := g1; exact DataW.trod_lt m _ _ _ hm
  obtain ⟨b1, e1, h1, s1⟩ := read_block (hval 1 36 v1 rfl rfl) g1
  subst e1
  clear hA0 hval0
  refine (walk b0 b1 W h0 s0 h1 s1).mono fun e W' ⟨he, bel⟩ => ?_
  subst he
  exact ⟨_, rfl, _, _, _, [], _, [], hW', trodAll_mk1 (shut_bool Try.underlying4 _), (trodAll_cons_mk (Below.trod laidOut_ (by kernel_rfl) (of_decide_eq_true (by kernel_rfl)) g0 bel.out lt0) (trodAll_cons_mk (Below.trod laidOut_ (by kernel_rfl) (of_decide_eq_true (by kernel_rfl)) g1 bel.out lt1) trodAll_mk0)), rfl, bel.out.frame _, fun h => by cases h⟩
theorem cf0 : (fun (P : Program) (f : FuncId) (fn : Func) (s : ChangeSpec) (c : OpenClaim) => (c.wf (OpenSpec.ofChange s) : Bool)) Try.prog 5 Try.f5 Rows.fnExactIrSameSpec Rows.fnExactIrSameRow = true := by kernel_rfl
theorem cf3 : (fun (P : Program) (f : FuncId) (fn : Func) (s : ChangeSpec) (c : OpenClaim) => (fn.params.all (P.readableRec ·) : Bool)) Try.prog 5 Try.f5 Rows.fnExactIrSameSpec Rows.fnExactIrSameRow = true := by kernel_rfl
theorem cf4 : (fun (P : Program) (f : FuncId) (fn : Func) (s : ChangeSpec) (c : OpenClaim) => (namedTie P c.named s.vars : Bool)) Try.prog 5 Try.f5 Rows.fnExactIrSameSpec Rows.fnExactIrSameRow = true := by kernel_rfl
theorem cf5 : (fun (P : Program) (f : FuncId) (fn : Func) (s : ChangeSpec) (c : OpenClaim) => ((c.stops == []) : Bool)) Try.prog 5 Try.f5 Rows.fnExactIrSameSpec Rows.fnExactIrSameRow = true := by kernel_rfl
theorem cf7 : (fun (P : Program) (f : FuncId) (fn : Func) (s : ChangeSpec) (c : OpenClaim) => ((c.knobs == []) : Bool)) Try.prog 5 Try.f5 Rows.fnExactIrSameSpec Rows.fnExactIrSameRow = true := by kernel_rfl
theorem cf9 : (fun (P : Program) (f : FuncId) (fn : Func) (s : ChangeSpec) (c : OpenClaim) => ((c.inPlace == P.inPlace f) : Bool)) Try.prog 5 Try.f5 Rows.fnExactIrSameSpec Rows.fnExactIrSameRow = true := by kernel_rfl
theorem cf10 : (fun (P : Program) (f : FuncId) (fn : Func) (s : ChangeSpec) (c : OpenClaim) => ((c.unfollowed == P.unfollowed f) : Bool)) Try.prog 5 Try.f5 Rows.fnExactIrSameSpec Rows.fnExactIrSameRow = true := by kernel_rfl
theorem cf11 : (fun (P : Program) (f : FuncId) (fn : Func) (s : ChangeSpec) (c : OpenClaim) => ((c.recurses == P.recurses f) : Bool)) Try.prog 5 Try.f5 Rows.fnExactIrSameSpec Rows.fnExactIrSameRow = true := by kernel_rfl
theorem cf12 : (fun (P : Program) (f : FuncId) (fn : Func) (s : ChangeSpec) (c : OpenClaim) => ((c.named == P.varsNamed f) : Bool)) Try.prog 5 Try.f5 Rows.fnExactIrSameSpec Rows.fnExactIrSameRow = true := by kernel_rfl
theorem cf13 : (fun (P : Program) (f : FuncId) (fn : Func) (s : ChangeSpec) (c : OpenClaim) => ((c.maps == (fn.params.toList ++ s.plain.varTypes P).any (P.mapsRec ·)) : Bool)) Try.prog 5 Try.f5 Rows.fnExactIrSameSpec Rows.fnExactIrSameRow = true := by kernel_rfl
theorem cf14 : (fun (P : Program) (f : FuncId) (fn : Func) (s : ChangeSpec) (c : OpenClaim) => ((c.ifaces == (fn.params.toList ++ s.plain.varTypes P).any (P.ifacesRec ·)) : Bool)) Try.prog 5 Try.f5 Rows.fnExactIrSameSpec Rows.fnExactIrSameRow = true := by kernel_rfl
theorem cf15 : (fun (P : Program) (f : FuncId) (fn : Func) (s : ChangeSpec) (c : OpenClaim) => ((c.mapsOut == P.mapsAmong fn.resultTypes.toList) : Bool)) Try.prog 5 Try.f5 Rows.fnExactIrSameSpec Rows.fnExactIrSameRow = true := by kernel_rfl
theorem cf16 : (fun (P : Program) (f : FuncId) (fn : Func) (s : ChangeSpec) (c : OpenClaim) => ((c.loops == (fn.params.toList ++ s.plain.varTypes P).any (P.loopsFrom ·)) : Bool)) Try.prog 5 Try.f5 Rows.fnExactIrSameSpec Rows.fnExactIrSameRow = true := by kernel_rfl
theorem cf17 : (fun (P : Program) (f : FuncId) (fn : Func) (s : ChangeSpec) (c : OpenClaim) => ((c.wideKeys == (fn.params.toList ++ s.plain.varTypes P ++ fn.resultTypes.toList).any (P.wideKeysFrom ·)) : Bool)) Try.prog 5 Try.f5 Rows.fnExactIrSameSpec Rows.fnExactIrSameRow = true := by kernel_rfl
theorem cf18 : (fun (P : Program) (f : FuncId) (fn : Func) (s : ChangeSpec) (c : OpenClaim) => (s.vars.all (P.varReadable ·) : Bool)) Try.prog 5 Try.f5 Rows.fnExactIrSameSpec Rows.fnExactIrSameRow = true := by kernel_rfl
theorem cf19 : (fun (P : Program) (f : FuncId) (fn : Func) (s : ChangeSpec) (c : OpenClaim) => (fn.resultTypes.all (fun t => P.readableRec t && decide (t < P.types.size)) : Bool)) Try.prog 5 Try.f5 Rows.fnExactIrSameSpec Rows.fnExactIrSameRow = true := by kernel_rfl
theorem cf20 : (fun (P : Program) (f : FuncId) (fn : Func) (s : ChangeSpec) (c : OpenClaim) => ((c.ifacesOut == fn.resultTypes.toList.any (P.ifacesRec ·)) : Bool)) Try.prog 5 Try.f5 Rows.fnExactIrSameSpec Rows.fnExactIrSameRow = true := by kernel_rfl
theorem cf21 : (fun (P : Program) (f : FuncId) (fn : Func) (s : ChangeSpec) (c : OpenClaim) => ((c.loopsOut == fn.resultTypes.toList.any (P.loopsFrom ·)) : Bool)) Try.prog 5 Try.f5 Rows.fnExactIrSameSpec Rows.fnExactIrSameRow = true := by kernel_rfl
theorem cf23 : (fun (P : Program) (f : FuncId) (fn : Func) (s : ChangeSpec) (c : OpenClaim) => (c.shortTexts.isNone : Bool)) Try.prog 5 Try.f5 Rows.fnExactIrSameSpec Rows.fnExactIrSameRow = true := by kernel_rfl
theorem cf28 : (fun (P : Program) (f : FuncId) (fn : Func) (s : ChangeSpec) (c : OpenClaim) => ((c.kinds == (if c.domain.isEmpty then [] else fn.params.toList.map fun t => match P.underlying t with | some (.int k) => some k | _ => none)) : Bool)) Try.prog 5 Try.f5 Rows.fnExactIrSameSpec Rows.fnExactIrSameRow = true := by kernel_rfl
theorem cf29 : (fun (P : Program) (f : FuncId) (fn : Func) (s : ChangeSpec) (c : OpenClaim) => ((c.pinned == c.pinnedBy) : Bool)) Try.prog 5 Try.f5 Rows.fnExactIrSameSpec Rows.fnExactIrSameRow = true := by kernel_rfl
theorem cf30 : (fun (P : Program) (f : FuncId) (fn : Func) (s : ChangeSpec) (c : OpenClaim) => ((c.veiled == (fn.params.toList ++ s.plain.varTypes P ++ fn.resultTypes.toList).any (P.veiledRec ·)) : Bool)) Try.prog 5 Try.f5 Rows.fnExactIrSameSpec Rows.fnExactIrSameRow = true := by kernel_rfl
theorem cf31 : (fun (P : Program) (f : FuncId) (fn : Func) (s : ChangeSpec) (c : OpenClaim) => (c.veiledFits P fn.params.toList (fn.params.toList ++ s.plain.varTypes P ++ fn.resultTypes.toList) : Bool)) Try.prog 5 Try.f5 Rows.fnExactIrSameSpec Rows.fnExactIrSameRow = true := by kernel_rfl

set_option maxRecDepth 100000 in
theorem closed : joinedFacts Try.prog 5 Try.f5 Rows.fnExactIrSameSpec Rows.fnExactIrSameRow = true := by
  unfold joinedFacts
  exact (band (band (band (band (band (band (band (band (band (band (band (band (band (band (band (band (band (band (band (band (band (band (band (band (band (band (band (band (band (band (band cf0 pf1) pf2) cf3) cf4) cf5) pf6) cf7) pf8) cf9) cf10) cf11) cf12) cf13) cf14) cf15) cf16) cf17) cf18) cf19) cf20) cf21) pf22) cf23) pf24) pf25) pf26) pf27) cf28) cf29) cf30) cf31)
theorem inst : Try.f5.isInstance Try.prog Rows.fnExactIrSameRow.origin Rows.fnExactIrSameRow.targs := of_decide_eq_true (by kernel_rfl)
theorem wrap_ : Try.f5.isWrapper Try.prog Rows.fnExactIrSameRow.wrapper Rows.fnExactIrSameRow.mainSum := by
  unfold Func.isWrapper
  rw [if_neg (by decide +kernel)]
  exact ⟨rfl, rfl⟩

theorem over : Rows.fnExactIrSameRow.holds Try.pinned (OpenSpec.ofChange Rows.fnExactIrSameSpec) :=
  OpenClaim.holds_of_wide 5 Try.f5 rfl rfl rfl rfl rfl rfl rfl ⟨rfl, rfl, rfl, rfl, rfl⟩ rfl rfl rfl rfl rfl (by as_aux_lemma => kernel_rfl) Try.func5 closed inst wrap_
    (fun os started H enc _ => lifted os started H enc)

theorem proved : Rows.FnExactIrSameSaid := over
#print axioms proved
end Go.Proofs.Ytpmipopeoiojjaa.fnExactIrSame
