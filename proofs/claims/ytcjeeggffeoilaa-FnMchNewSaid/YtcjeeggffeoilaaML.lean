/- The laws' own comparison of machines, where both are the same; the draw of two lists of words. Conditions: lengths that a machine can hold. -/
import Derived.Test.YtcjeeggffeoilaaMN
import Derived.Test.YtcjeeggffeoilaaPH
namespace Go.Proofs.Ytcjeeggffeoilaa
open Go Go.RowKit
set_option linter.unusedVariables false
set_option linter.unusedSimpArgs false

set_option maxHeartbeats 1000000 in
theorem laMach_ (m m' : Mc) (w : World) (h : RMc 3 w m) (h' : RMc 3 w m') (hd : m.dat = m'.dat) (s : SmMc m) :
    Calls Try.prog 8 #[m.val, m'.val] w fun e w' => e = .returned (.bool true) ∧ Ext w w' := by
  obtain ⟨A0, k0, regs, pc, A2, k2, mem, save, let_, waits, halt, A7, k7, ins, A8, k8, outs, count⟩ := m
  obtain ⟨A0', k0', regs', pc', A2', k2', mem', save', let_', waits', halt', A7', k7', ins', A8', k8', outs', count'⟩ := m'
  unfold Mc.dat at hd
  simp only [Prod.mk.injEq] at hd
  obtain ⟨rfl, rfl, rfl, rfl, rfl, rfl, rfl, rfl, rfl, rfl⟩ := hd
  obtain ⟨n0, n2, n7, n8⟩ := s
  unfold Mc.val Mc.cells
  simp only at n0 n2 n7 n8 ⊢
  have hq : (let_ == let_) = true := by simp
  have hq' : (waits == waits) = true := by simp
  go_enter Try.func8, Try.ntmps8
  go_wp2_with fail
  refine (laInts_v _ _ _ _ regs regs _ (h.1.ext (by repeat (first | with_reducible assumption | with_reducible exact Ext.refl _ | with_reducible apply Ext.drewN | with_reducible apply Ext.drew | with_reducible apply Ext.alloc | with_reducible refine Ext.set ?_ (by first | (simp; done) | (simp; omega)) _ | with_reducible refine Ext.next ?_ (by with_reducible assumption)))) (h'.1.ext (by repeat (first | with_reducible assumption | with_reducible exact Ext.refl _ | with_reducible apply Ext.drewN | with_reducible apply Ext.drew | with_reducible apply Ext.alloc | with_reducible refine Ext.set ?_ (by first | (simp; done) | (simp; omega)) _ | with_reducible refine Ext.next ?_ (by with_reducible assumption)))) n0 n0 (decide_eq_true rfl)).mono ?_
  rintro e w1 ⟨rfl, hw1⟩
  obtain ⟨hc1, hf1⟩ := bcell_ hw1
  have hz1 : w.heap.size + 1 < w1.heap.size := by have := hw1.size; simp at this; omega
  have hx1 : w.heap.size < w1.heap.size := by omega
  go_wp2_with fail
  refine (laInts_v _ _ _ _ mem mem _ (h.2.1.ext (by repeat (first | with_reducible assumption | with_reducible exact Ext.refl _ | with_reducible apply Ext.drewN | with_reducible apply Ext.drew | with_reducible apply Ext.alloc | with_reducible refine Ext.set ?_ (by first | (simp; done) | (simp; omega)) _ | with_reducible refine Ext.next ?_ (by with_reducible assumption)))) (h'.2.1.ext (by repeat (first | with_reducible assumption | with_reducible exact Ext.refl _ | with_reducible apply Ext.drewN | with_reducible apply Ext.drew | with_reducible apply Ext.alloc | with_reducible refine Ext.set ?_ (by first | (simp; done) | (simp; omega)) _ | with_reducible refine Ext.next ?_ (by with_reducible assumption)))) n2 n2 (decide_eq_true rfl)).mono ?_
  rintro e w2 ⟨rfl, hw2⟩
  obtain ⟨hc2, hf2⟩ := bcell_ hw2
  have hz2 := lt_ext hw2 hz1
  have hx2 := lt_ext hw2 hx1
  go_wp2_with fail
  refine (laInts_v _ _ _ _ ins ins _ (h.2.2.1.ext (by repeat (first | with_reducible assumption | with_reducible exact Ext.refl _ | with_reducible apply Ext.drewN | with_reducible apply Ext.drew | with_reducible apply Ext.alloc | with_reducible refine Ext.set ?_ (by first | (simp; done) | (simp; omega)) _ | with_reducible refine Ext.next ?_ (by with_reducible assumption)))) (h'.2.2.1.ext (by repeat (first | with_reducible assumption | with_reducible exact Ext.refl _ | with_reducible apply Ext.drewN | with_reducible apply Ext.drew | with_reducible apply Ext.alloc | with_reducible refine Ext.set ?_ (by first | (simp; done) | (simp; omega)) _ | with_reducible refine Ext.next ?_ (by with_reducible assumption)))) n7 n7 (decide_eq_true rfl)).mono ?_
  rintro e w3 ⟨rfl, hw3⟩
  obtain ⟨hc3, hf3⟩ := bcell_ hw3
  have hz3 := lt_ext hw3 hz2
  have hx3 := lt_ext hw3 hx2
  go_wp2_with fail
  refine (laInts_v _ _ _ _ outs outs _ (h.2.2.2.ext (by repeat (first | with_reducible assumption | with_reducible exact Ext.refl _ | with_reducible apply Ext.drewN | with_reducible apply Ext.drew | with_reducible apply Ext.alloc | with_reducible refine Ext.set ?_ (by first | (simp; done) | (simp; omega)) _ | with_reducible refine Ext.next ?_ (by with_reducible assumption)))) (h'.2.2.2.ext (by repeat (first | with_reducible assumption | with_reducible exact Ext.refl _ | with_reducible apply Ext.drewN | with_reducible apply Ext.drew | with_reducible apply Ext.alloc | with_reducible refine Ext.set ?_ (by first | (simp; done) | (simp; omega)) _ | with_reducible refine Ext.next ?_ (by with_reducible assumption)))) n8 n8 (decide_eq_true rfl)).mono ?_
  rintro e w4 ⟨rfl, hw4⟩
  obtain ⟨hc4, hf4⟩ := bcell_ hw4
  have hz4 := lt_ext hw4 hz3
  have hx4 := lt_ext hw4 hx3
  go_wp2
  go_ret
  exact ⟨rfl, (by repeat (first | with_reducible assumption | with_reducible exact Ext.refl _ | with_reducible apply Ext.drewN | with_reducible apply Ext.drew | with_reducible apply Ext.alloc | with_reducible refine Ext.set ?_ (by first | (simp; done) | (simp; omega)) _ | with_reducible refine Ext.next ?_ (by with_reducible assumption)))⟩

theorem OI.upq {TI : TypeId} {w w' : World} {lo k : Nat} {A : Option Addr} {xs : List Int} {S : Nat → Prop} (h : OI TI w lo A k xs) (he : Upd S w w') (hs : ∀ b, atB A b → ¬ S b) : OI TI w' lo A k xs := own_upd' h he hs
def RetDM (TI : TypeId) (w : World) (e : Ending) (w' : World) : Prop :=
  ∃ A1 k1 ws A2 k2 is, e = .returned (.tuple #[.slice A1 (List.length ws) k1, .slice A2 (List.length is) k2]) ∧ OI TI w' w.heap.size A1 k1 ws ∧ OI TI w' w.heap.size A2 k2 is ∧ ws.length ≤ 100 ∧ is.length ≤ 100 ∧ Ext w w'

set_option maxHeartbeats 1000000 in
theorem drawMchNew (A : Option Addr) (k : Nat) (bs : List Int) (w : World) (h : AB w A bs) (hn : bs.length ≤ 9223372036854775807) (hk : bs.length ≤ k) :
    Calls Try.prog 6 #[.slice A bs.length k] w (RetDM 3 w) := by
  go_enter Try.func6, Try.ntmps6
  go_wp2_with fail
  refine (open_ _ _ _ _ h hn hk).mono ?_
  rintro e w1 ⟨r, A', k', m, rfl, hR, hr, hw1⟩
  have hrs := hR.size
  go_wp2_with fail
  refine (pick _ _ _ _ _ _ _ _ (hR.ext (by repeat (first | with_reducible assumption | with_reducible exact Ext.refl _ | with_reducible apply Ext.drewN | with_reducible apply Ext.drew | with_reducible apply Ext.alloc | with_reducible refine Ext.set ?_ (by first | (simp; done) | (simp; omega)) _ | with_reducible refine Ext.next ?_ (by with_reducible assumption)))) (by omega)).mono ?_
  rintro e w2 ⟨u, rfl, hu0, hu1, hR2, hU2⟩
  have hu2 := hu1 (by omega)
  have hs := hU2.size
  have HU : Hid (Upd (fun b => b = r) w1 w2) := hid ((Upd.of_ext (by repeat (first | with_reducible assumption | with_reducible exact Ext.refl _ | with_reducible apply Ext.drewN | with_reducible apply Ext.drew | with_reducible apply Ext.alloc | with_reducible refine Ext.set ?_ (by first | (simp; done) | (simp; omega)) _ | with_reducible refine Ext.next ?_ (by with_reducible assumption)))).next hU2)
  obtain ⟨un, rfl⟩ : ∃ un : Nat, u = un := ⟨u.toNat, by omega⟩
  obtain ⟨x, hx, hxL⟩ := lit_pick [0, 1, 5, 64, 65] (fun v => v ≤ ((65 : Nat) : Int)) (by decide) (i := un) (show un < 5 by omega)
  have hxc := (hU2.cell (p := ⟨w1.heap.size, un, none⟩) (by simp) (by simp only; omega)).trans (lit_cell w1 3 hxL)
  have hl2 := World.block_lt_of_cell? _ _ hxc
  simp only at hl2
  clear hU2 hxL
  go_wp2_with fail
  refine (words20 _ _ _ _ _ _ _ 65 _ hR2 hx (by omega) (by omega)).mono ?_
  rintro e w3 ⟨A3, k3, ws, d3, rfl, ho3, hl3, hb3, hd3, hR3, hU3⟩
  have HU3 := hid (HU.out.next hU3)
  have hs3 := hU3.size
  have HO3 := hid ho3
  clear hU3 ho3 hxc
  go_wp2_with fail
  refine (pick _ _ _ _ _ _ _ _ hR3 (by omega)).mono ?_
  rintro e w4 ⟨v, rfl, hv0, hv1, hR4, hU4⟩
  have hv2 := hv1 (by omega)
  go_wp2_with fail
  refine (words20 _ _ _ _ _ _ _ 3 _ hR4 (by omega) (by omega) (by omega)).mono ?_
  rintro e w5 ⟨A5, k5, is, d5, rfl, ho5, hl5, hb5, hd5, hR5, hU5⟩
  have hr1 : ∀ b, b = r → b < w1.heap.size := fun b hb => by omega
  have hsz := HU.out.size
  have HO3' := hid (OI.upq (OI.upq HO3.out hU4 (fun b hb e => by have := (own_atB HO3.out hb).1; have e : b = r := e; omega)) hU5 (fun b hb e => by have := (own_atB HO3.out hb).1; have e : b = r := e; omega))
  have HO5 := hid ho5
  have HF3 := hid fun b (hb : atB A3 b) => own_atB HO3.out hb
  have HF5 := hid fun b (hb : atB A5 b) => own_atB HO5.out hb
  have hs4 := hU4.size
  have HU5 := hid ((HU3.out.next hU4).next hU5)
  have hs5' := hU5.size
  clear hU4 hU5 ho5
  go_wp2_with fail
  refine (odd _ _ _ _ _ _ _ _ hR5 (by omega)).mono ?_
  rintro e w6 ⟨q, rfl, hR6, hU6⟩
  have HU6 := hid (HU5.out.next hU6)
  have HO3q := hid (OI.upq HO3'.out hU6 (fun b hb e => by have := (HF3.out b hb).1; have e : b = r := e; omega))
  have HO5q := hid (OI.upq HO5.out hU6 (fun b hb e => by have := (HF5.out b hb).1; have e : b = r := e; omega))
  have hs6 := hU6.size
  have hs5 := HU5.out.size
  clear hU6
  have hww := hw1.size
  cases q
  · have HE : Hid (Ext w w6) := hid (((Upd.of_ext hw1).next HU6.out).ext fun b hb => by have e : b = r := hb; omega)
    go_wp2
    go_ret2
    exact ⟨_, _, ws, _, _, is, rfl, HO3q.out.base (by omega), HO5q.out.base (by omega), by omega, by omega, HE.out⟩
  · go_wp2_with fail
    refine (pick _ _ _ _ _ _ _ _ hR6 (by omega)).mono ?_
    rintro e w7 ⟨y, rfl, hy0, hy1, hR7, hU7⟩
    have HE : Hid (Ext w w7) := hid (((Upd.of_ext hw1).next (HU6.out.next hU7)).ext fun b hb => by have e : b = r := hb; omega)
    have HO3r := hid (OI.upq HO3q.out hU7 (fun b hb e => by have := (HF3.out b hb).1; have e : b = r := e; omega))
    have HO5r := hid (OI.upq HO5q.out hU7 (fun b hb e => by have := (HF5.out b hb).1; have e : b = r := e; omega))
    have hs7 := hU7.size
    clear hU7
    cases hy : y == 0
    · go_wp2_with (at_builtin; (refine app_int Try.underlying23 info_int rfl _ _ rfl w4.heap.size A5 k5 is (HO5r.out.ext (by repeat (first | with_reducible assumption | with_reducible exact Ext.refl _ | with_reducible apply Ext.drewN | with_reducible apply Ext.drew | with_reducible apply Ext.alloc | with_reducible refine Ext.set ?_ (by first | (simp; done) | (simp; omega)) _ | with_reducible refine Ext.next ?_ (by with_reducible assumption)))) is.length rfl rfl (-1) ⟨w7.heap.size, 0, none⟩ 1 rfl (by rw [addr_add]; go_simp) (by omega) (by simp; omega) ?_); (intro A8 k8 w8 ho8 hu8); (have HO8 := hid ho8); (have HU8 := hid hu8); clear ho8 hu8)
      have HO3z := hid (OI.upq (HO3r.out.ext (a := w7.alloc (.cells #[.int .i64 (-1)] 3)) (by repeat (first | with_reducible assumption | with_reducible exact Ext.refl _ | with_reducible apply Ext.drewN | with_reducible apply Ext.drew | with_reducible apply Ext.alloc | with_reducible refine Ext.set ?_ (by first | (simp; done) | (simp; omega)) _ | with_reducible refine Ext.next ?_ (by with_reducible assumption)))) HU8.out (fun b hb e => by have := (HF3.out b hb).2; have := (HF5.out b e).1; omega))
      have HE8 : Hid (Ext w w8) := hid (((Upd.of_ext (S := fun _ => False) (HE.out.alloc _)).far2 HU8.out fun b hb => by have := (HF5.out b hb).1; omega).ext fun b hb => hb.elim)
      go_wp2
      go_ret2
      exact ⟨_, _, ws, _, _, is ++ [-1], by rw [List.length_append]; rfl, HO3z.out.base (by omega), HO8.out.base (by omega), by omega, by rw [List.length_append]; simp; omega, HE8.out⟩
    · go_wp2_with (at_builtin; (refine app_int Try.underlying23 info_int rfl _ _ rfl w2.heap.size A3 k3 ws (HO3r.out.ext (by repeat (first | with_reducible assumption | with_reducible exact Ext.refl _ | with_reducible apply Ext.drewN | with_reducible apply Ext.drew | with_reducible apply Ext.alloc | with_reducible refine Ext.set ?_ (by first | (simp; done) | (simp; omega)) _ | with_reducible refine Ext.next ?_ (by with_reducible assumption)))) ws.length rfl rfl 65536 ⟨w7.heap.size, 0, none⟩ 1 rfl (by rw [addr_add]; go_simp) (by omega) (by simp; omega) ?_); (intro A8 k8 w8 ho8 hu8); (have HO8 := hid ho8); (have HU8 := hid hu8); clear ho8 hu8)
      have HO5z := hid (OI.upq (HO5r.out.ext (a := w7.alloc (.cells #[.int .i64 65536] 3)) (by repeat (first | with_reducible assumption | with_reducible exact Ext.refl _ | with_reducible apply Ext.drewN | with_reducible apply Ext.drew | with_reducible apply Ext.alloc | with_reducible refine Ext.set ?_ (by first | (simp; done) | (simp; omega)) _ | with_reducible refine Ext.next ?_ (by with_reducible assumption)))) HU8.out (fun b hb e => by have := (HF3.out b e).2; have := (HF5.out b hb).1; omega))
      have HE8 : Hid (Ext w w8) := hid (((Upd.of_ext (S := fun _ => False) (HE.out.alloc _)).far2 HU8.out fun b hb => by have := (HF3.out b hb).1; omega).ext fun b hb => hb.elim)
      go_wp2
      go_ret2
      exact ⟨_, _, ws ++ [65536], _, _, is, by rw [List.length_append]; rfl, HO8.out.base (by omega), HO5z.out.base (by omega), by rw [List.length_append]; simp; omega, by omega, HE8.out⟩
end Go.Proofs.Ytcjeeggffeoilaa
