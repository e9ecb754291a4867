/- The law FnMchNew: a new machine begins with the words that it is given, and with noughts behind them. Conditions: none. -/
import Derived.Test.YtcjeeggffeoilaaRows
import Derived.WalkKit
import Derived.ProofKit
import Derived.OpenShut
import Derived.ShutString
import Derived.ChangeOld
import Derived.Below
import Derived.Carry
import Derived.Test.YtcjeeggffeoilaaF
import Derived.Test.YtcjeeggffeoilaaK
import Derived.Test.YtcjeeggffeoilaaMO
import Derived.Test.YtcjeeggffeoilaaMH
import Derived.Test.YtcjeeggffeoilaaML
import Derived.Deep.RegionHeld3
import Derived.Deep.DeepCutAuto
namespace Go.Proofs.Ytcjeeggffeoilaa.fnMchNew
open Go.ChangeShapes Go.WideShapes Go.ChangeAt Go.RowKit
set_option linter.unusedVariables false
set_option linter.unusedSimpArgs false

theorem newM_lens {ws is : List Int} (h2 : is.length ≤ 100) {m : Mc} (e : m.dat = newM ws is) : SmMc m := by
  unfold Mc.dat at e
  unfold SmMc
  cases hk : newOk ws is
  · rw [newM_no hk] at e
    simp only [Prod.mk.injEq] at e
    obtain ⟨e0, _, e2, _, _, _, _, e7, e8, _⟩ := e
    rw [e0, e2, e7, e8]
    simp
  · rw [newM_yes hk] at e
    simp only [Prod.mk.injEq] at e
    obtain ⟨e0, _, e2, _, _, _, _, e7, e8, _⟩ := e
    have hw : ws.length ≤ 64 := by
      unfold newOk at hk
      simp only [Bool.and_eq_true] at hk
      have := hk.1
      simp at this
      omega
    rw [e0, e2, e7, e8, padM_length hw]
    simp
    omega
theorem wordsB_rep (n : Nat) : wordsB (List.replicate n 0) = true := by
  unfold wordsB
  rw [List.all_eq_true]
  intro x hx
  rw [List.eq_of_mem_replicate hx]
  decide
theorem newM_okMc {ws is : List Int} (hk : newOk ws is = true) {m : Mc} (e : m.dat = newM ws is) : okMc m = true := by
  rw [newM_yes hk] at e
  unfold Mc.dat at e
  simp only [Prod.mk.injEq] at e
  obtain ⟨e0, e1, e2, e3, _, _, e6, e7, e8, e9⟩ := e
  unfold newOk at hk
  simp only [Bool.and_eq_true] at hk
  obtain ⟨hk1, hk2, hk3⟩ := hk
  have hw : ws.length ≤ 64 := by simp at hk1; omega
  have hp : wordsB (padM ws) = true := by
    have := wordsB_rep (64 - ws.length)
    unfold wordsB at *
    unfold padM
    rw [List.all_append, hk2, this]
    rfl
  unfold okMc
  rw [e0, e1, e2, e3, e6, e7, e8, e9, padM_length hw, hp, hk3]
  decide
theorem RI.pre {TI : TypeId} {w : World} {A : Option Addr} {xs ys : List Int} (h : RI TI w A (xs ++ ys)) : RI TI w A xs := fun hn => by
  have hx : xs ≠ [] := by rintro rfl; exact hn rfl
  obtain ⟨b, o, c, fr, h1, h2, h3⟩ := h (by simp [hx])
  refine ⟨b, o, c, fr, h1, h2, fun j hj => ?_⟩
  rw [List.length_map] at hj
  rw [h3 j (by simp; omega), List.map_append, List.getElem?_append_left (by simp; omega)]

set_option maxRecDepth 100000 in
set_option maxHeartbeats 2000000 in
theorem walk (A0 : Option Addr) (k0 : Nat) (bs0 : List Int) (w : World) (h0 : AB w A0 bs0) (s0 : bs0.length ≤ 9223372036854775807 ∧ bs0.length ≤ k0) :
    Calls Try.prog 3 #[.slice A0 bs0.length k0] w fun e w' => e = .returned (.bool true) ∧ Ext w w' := by
  by_cases hz : (1048576 : Int) < bs0.length
  · go_enter Try.func3, Try.ntmps3
    go_wp2
    go_ret
    exact ⟨rfl, (by repeat (first | with_reducible assumption | with_reducible exact Ext.refl _ | with_reducible apply Ext.drewN | with_reducible apply Ext.drew | with_reducible apply Ext.alloc | with_reducible refine Ext.set ?_ (by first | (simp; done) | (simp; omega)) _ | with_reducible refine Ext.next ?_ (by with_reducible assumption)))⟩
  go_enter Try.func3, Try.ntmps3
  go_wp2_with fail
  refine (drawMchNew _ _ _ _ h0 s0.1 s0.2).mono ?_
  rintro e w1 ⟨A1, k1, ws, A2, k2, is, rfl, ho1, ho2, hl1, hl2, hw1⟩
  go_wp2_with fail
  refine (implMchNew _ _ _ _ ws is _ ho1.ri ho2.ri ho2.nilk (by omega) (by omega)).mono ?_
  rintro e w2 ⟨m2, rfl, hd2, om2, hp2, hw2⟩
  have HW2 : Hid (Ext w w2) := hid (hw1.next hw2)
  have HR1 := hid (ho1.ri.ext hw2)
  have HR2 := hid (ho2.ri.ext hw2)
  have HZ2 := hid ho2.nilk
  have HM2 := hid om2.rm
  have HS2 := hid (newM_lens hl2 hd2)
  have HD2 := hid hd2
  cases hk : newOk ws is
  · rw [newM_no hk] at hd2
    obtain ⟨B0, j0, regs, pc, B2, j2, mem, save, let_, waits, halt, B7, j7, ins, B8, j8, outs, count⟩ := m2
    unfold Mc.dat at hd2
    simp only [Prod.mk.injEq] at hd2
    obtain ⟨rfl, rfl, rfl, rfl, rfl, rfl, rfl, rfl, rfl, rfl⟩ := hd2
    clear ho1 ho2 om2 hp2 hk hw1 hw2
    unfold Mc.val Mc.cells
    simp only [List.length_nil]
    go_wp2
    go_region_held3 (fun w' => w'.cell? ⟨w2.heap.size, 0, none⟩ = some (.slice B0 0 j0) ∧ w'.cell? ⟨w2.heap.size, 1, none⟩ = some (.int .i64 0) ∧ w'.cell? ⟨w2.heap.size, 2, none⟩ = some (.slice B2 0 j2) ∧ w'.cell? ⟨w2.heap.size, 3, none⟩ = some (.int .i64 0) ∧ w'.cell? ⟨w2.heap.size, 4, none⟩ = some (.bool false) ∧ w'.cell? ⟨w2.heap.size, 5, none⟩ = some (.bool false) ∧ w'.cell? ⟨w2.heap.size, 6, none⟩ = some (.int .i64 0) ∧ w'.cell? ⟨w2.heap.size, 7, none⟩ = some (.slice B7 0 j7) ∧ w'.cell? ⟨w2.heap.size, 8, none⟩ = some (.slice B8 0 j8) ∧ w'.cell? ⟨w2.heap.size, 9, none⟩ = some (.int .i64 0)) (refine ⟨?_, ?_, ?_, ?_, ?_, ?_, ?_, ?_, ?_, ?_⟩ <;> (repeat (first | with_reducible assumption | with_reducible refine keep (by with_reducible assumption) ?_)) <;> (first | done | (go_simp; done))) (first
      | (go_at_call 9; (refine (specMchNew _ _ _ _ ws is _ (HR1.out.ext (by repeat (first | with_reducible assumption | with_reducible exact Ext.refl _ | with_reducible apply Ext.drewN | with_reducible apply Ext.drew | with_reducible apply Ext.alloc | with_reducible refine Ext.set ?_ (by first | (simp; done) | (simp; omega)) _ | with_reducible refine Ext.next ?_ (by with_reducible assumption)))) (HR2.out.ext (by repeat (first | with_reducible assumption | with_reducible exact Ext.refl _ | with_reducible apply Ext.drewN | with_reducible apply Ext.drew | with_reducible apply Ext.alloc | with_reducible refine Ext.set ?_ (by first | (simp; done) | (simp; omega)) _ | with_reducible refine Ext.next ?_ (by with_reducible assumption)))) HZ2.out (by omega) (by omega)).mono ?_); (rintro e w3 ⟨m3, rfl, hd3, om3, hp3, hw3⟩); (have HD3 := hid hd3); (have HR3 := hid om3.rm); clear hd3 om3 hp3)
      | (go_at_call 8; (refine (laMach_ ⟨B0, j0, [], 0, B2, j2, [], 0, false, false, 0, B7, j7, [], B8, j8, [], 0⟩ m3 _ (HM2.out.ext (by repeat (first | with_reducible assumption | with_reducible exact Ext.refl _ | with_reducible apply Ext.drewN | with_reducible apply Ext.drew | with_reducible apply Ext.alloc | with_reducible refine Ext.set ?_ (by first | (simp; done) | (simp; omega)) _ | with_reducible refine Ext.next ?_ (by with_reducible assumption)))) (HR3.out.ext (by repeat (first | with_reducible assumption | with_reducible exact Ext.refl _ | with_reducible apply Ext.drewN | with_reducible apply Ext.drew | with_reducible apply Ext.alloc | with_reducible refine Ext.set ?_ (by first | (simp; done) | (simp; omega)) _ | with_reducible refine Ext.next ?_ (by with_reducible assumption)))) (HD2.out.trans HD3.out.symm) HS2.out).mono ?_); (rintro e w4 ⟨rfl, hw4⟩)))
    all_goals
      have hX := HW2.out
      go_wp2_with (go_at_call 10; refine (laOk_ _).mono ?_; rintro e w' ⟨rfl, rfl⟩)
      go_ret
      exact ⟨rfl, (by repeat (first | with_reducible assumption | with_reducible exact Ext.refl _ | with_reducible apply Ext.drewN | with_reducible apply Ext.drew | with_reducible apply Ext.alloc | with_reducible refine Ext.set ?_ (by first | (simp; done) | (simp; omega)) _ | with_reducible refine Ext.next ?_ (by with_reducible assumption)))⟩
  · rw [newM_yes hk] at hd2
    have hw64 : ws.length ≤ 64 := by
      unfold newOk at hk
      simp only [Bool.and_eq_true] at hk
      have := hk.1
      simp at this
      omega
    have HK : Hid (okMc m2 = true) := hid (newM_okMc hk HD2.out)
    obtain ⟨B0, j0, regs, pc, B2, j2, mem, save, let_, waits, halt, B7, j7, ins, B8, j8, outs, count⟩ := m2
    unfold Mc.dat at hd2
    simp only [Prod.mk.injEq] at hd2
    obtain ⟨rfl, rfl, rfl, rfl, rfl, rfl, rfl, rfl, rfl, rfl⟩ := hd2
    have hpl := padM_length hw64
    obtain ⟨M0, M2, M7, M8⟩ := HM2.out
    simp only at M0 M2 M7 M8
    have H0 := hid M0
    have H2 := hid M2
    have H7 := hid M7
    have hsl : ∃ g, B2 = some ⟨g, 0, none⟩ ∧ 64 ≤ j2 := by
      rcases om2.2.1.2 with ⟨_, h0⟩ | ⟨g, cap, cur, hv, _, _, hle, _⟩
      · simp only at h0; omega
      · injection hv with e1 e2 e3
        simp only at e1 e2 e3 hle
        exact ⟨g, e1, by omega⟩
    obtain ⟨g, rfl, hj2⟩ := hsl
    clear ho1 ho2 om2 hp2 hk hw1 hw2 M0 M2 M7 M8 HM2
    have HM2 : Hid (RMc 3 w2 ⟨B0, j0, [0, 0, 0, 0], 0, some ⟨g, 0, none⟩, j2, padM ws, 0, false, false, 0, B7, j7, ins, B8, j8, [], 0⟩) := hid ⟨H0.out, H2.out, H7.out, Row.nil _ _ _⟩
    unfold Mc.val Mc.cells
    simp only [List.length_nil, List.length_cons, hpl]
    go_wp2
    go_region_held3 (fun w' => w'.cell? ⟨w2.heap.size, 0, none⟩ = some (.slice B0 4 j0) ∧ w'.cell? ⟨w2.heap.size, 1, none⟩ = some (.int .i64 0) ∧ w'.cell? ⟨w2.heap.size, 2, none⟩ = some (.slice (some ⟨g, 0, none⟩) 64 j2) ∧ w'.cell? ⟨w2.heap.size, 3, none⟩ = some (.int .i64 0) ∧ w'.cell? ⟨w2.heap.size, 4, none⟩ = some (.bool false) ∧ w'.cell? ⟨w2.heap.size, 5, none⟩ = some (.bool false) ∧ w'.cell? ⟨w2.heap.size, 6, none⟩ = some (.int .i64 0) ∧ w'.cell? ⟨w2.heap.size, 7, none⟩ = some (.slice B7 ins.length j7) ∧ w'.cell? ⟨w2.heap.size, 8, none⟩ = some (.slice B8 0 j8) ∧ w'.cell? ⟨w2.heap.size, 9, none⟩ = some (.int .i64 0)) (refine ⟨?_, ?_, ?_, ?_, ?_, ?_, ?_, ?_, ?_, ?_⟩ <;> (repeat (first | with_reducible assumption | with_reducible refine keep (by with_reducible assumption) ?_)) <;> (first | done | (go_simp; done))) (first
      | (go_at_call 9; (refine (specMchNew _ _ _ _ ws ins _ (HR1.out.ext (by repeat (first | with_reducible assumption | with_reducible exact Ext.refl _ | with_reducible apply Ext.drewN | with_reducible apply Ext.drew | with_reducible apply Ext.alloc | with_reducible refine Ext.set ?_ (by first | (simp; done) | (simp; omega)) _ | with_reducible refine Ext.next ?_ (by with_reducible assumption)))) (HR2.out.ext (by repeat (first | with_reducible assumption | with_reducible exact Ext.refl _ | with_reducible apply Ext.drewN | with_reducible apply Ext.drew | with_reducible apply Ext.alloc | with_reducible refine Ext.set ?_ (by first | (simp; done) | (simp; omega)) _ | with_reducible refine Ext.next ?_ (by with_reducible assumption)))) HZ2.out (by omega) (by omega)).mono ?_); (rintro e w3 ⟨m3, rfl, hd3, om3, hp3, hw3⟩); (have HD3 := hid hd3); (have HR3 := hid om3.rm); clear hd3 om3 hp3)
      | (go_at_call 8; (have HA := hid (laMach_ ⟨B0, j0, [0, 0, 0, 0], 0, some ⟨g, 0, none⟩, j2, padM ws, 0, false, false, 0, B7, j7, ins, B8, j8, [], 0⟩ m3 _ (HM2.out.ext (w' := w3) (by repeat (first | with_reducible assumption | with_reducible exact Ext.refl _ | with_reducible apply Ext.drewN | with_reducible apply Ext.drew | with_reducible apply Ext.alloc | with_reducible refine Ext.set ?_ (by first | (simp; done) | (simp; omega)) _ | with_reducible refine Ext.next ?_ (by with_reducible assumption)))) HR3.out (HD2.out.trans HD3.out.symm) HS2.out)); (unfold Mc.val Mc.cells at HA); (simp only [List.length_nil, List.length_cons, hpl] at HA); (unfold Mc.val Mc.cells); (refine HA.out.mono ?_); (rintro e w4 ⟨rfl, hw4⟩)))
    all_goals
      have HP4 := hid (H2.out.ext (w' := w4) (by repeat (first | with_reducible assumption | with_reducible exact Ext.refl _ | with_reducible apply Ext.drewN | with_reducible apply Ext.drew | with_reducible apply Ext.alloc | with_reducible refine Ext.set ?_ (by first | (simp; done) | (simp; omega)) _ | with_reducible refine Ext.next ?_ (by with_reducible assumption))))
      have HM4 := hid (HM2.out.ext (w' := w4) (by repeat (first | with_reducible assumption | with_reducible exact Ext.refl _ | with_reducible apply Ext.drewN | with_reducible apply Ext.drew | with_reducible apply Ext.alloc | with_reducible refine Ext.set ?_ (by first | (simp; done) | (simp; omega)) _ | with_reducible refine Ext.next ?_ (by with_reducible assumption))))
      have HN4 := hid (HR1.out.ext (w' := w4) (by repeat (first | with_reducible assumption | with_reducible exact Ext.refl _ | with_reducible apply Ext.drewN | with_reducible apply Ext.drew | with_reducible apply Ext.alloc | with_reducible refine Ext.set ?_ (by first | (simp; done) | (simp; omega)) _ | with_reducible refine Ext.next ?_ (by with_reducible assumption))))
      have HQ4 := hid (HR2.out.ext (w' := w4) (by repeat (first | with_reducible assumption | with_reducible exact Ext.refl _ | with_reducible apply Ext.drewN | with_reducible apply Ext.drew | with_reducible apply Ext.alloc | with_reducible refine Ext.set ?_ (by first | (simp; done) | (simp; omega)) _ | with_reducible refine Ext.next ?_ (by with_reducible assumption))))
      have hX := HW2.out
      have HX4 : Hid (Ext w w4) := hid (by repeat (first | with_reducible assumption | with_reducible exact Ext.refl _ | with_reducible apply Ext.drewN | with_reducible apply Ext.drew | with_reducible apply Ext.alloc | with_reducible refine Ext.set ?_ (by first | (simp; done) | (simp; omega)) _ | with_reducible refine Ext.next ?_ (by with_reducible assumption)))
      clear hX hw3 hw4
      go_wp2
      go_loopw [6] (fun i wr => ∃ j : Nat, i = .int .i64 j ∧ ws.length ≤ j ∧ j ≤ 64 ∧ Ext w4 wr) (fun i _ => 64 - (intOf i).toNat)
      case atStart => exact ⟨ws.length, rfl, Nat.le_refl _, hw64, Ext.refl _⟩
      case round =>
        obtain ⟨j, rfl, hj, hj3, hext⟩ := hrel
        obtain ⟨hcr, hfr⟩ := bcell_ hext
        have lp : w2.heap.size < w4.heap.size := World.block_lt_of_cell? _ _ (‹w4.cell? ⟨w2.heap.size, 0, none⟩ = some (.slice B0 4 j0) ∧ _›).1
        have HXr : Hid (Ext w wr) := hid (HX4.out.next hext)
        by_cases hlt : j < 64
        · obtain ⟨b, o, x, e, hb, hx, hcell⟩ := (HP4.out.ext hext).at_ (i := j) (by rw [hpl]; exact hlt)
          injection e with e
          injection e with e1 e2
          subst e1 e2
          obtain rfl : x = 0 := by rw [padM_ge (by omega) hlt] at hx; injection hx with hx; exact hx.symm
          rw [Nat.zero_add] at hcell
          clear hx
          go_wp2
          go_roundw
          case rel => exact ⟨j + 1, by go_num, by omega, by omega, (by repeat (first | with_reducible assumption | with_reducible exact Ext.refl _ | with_reducible apply Ext.drewN | with_reducible apply Ext.drew | with_reducible apply Ext.alloc | with_reducible refine Ext.set ?_ (by first | (simp; done) | (simp; omega)) _ | with_reducible refine Ext.next ?_ (by with_reducible assumption)))⟩
          case measure => simp [intOf]; omega
        · obtain rfl : j = 64 := by omega
          have HPR := hid (RI.pre (show RI 3 wr (some ⟨g, 0, none⟩) (ws ++ List.replicate (64 - ws.length) 0) from HP4.out.ext hext))
          have HI := hid (implMchOk ⟨B0, j0, [0, 0, 0, 0], 0, some ⟨g, 0, none⟩, j2, padM ws, 0, false, false, 0, B7, j7, ins, B8, j8, [], 0⟩ wr (HM4.out.ext hext) HS2.out)
          rw [HK.out] at HI
          unfold Mc.val Mc.cells at HI
          simp only [List.length_nil, List.length_cons, hpl] at HI
          go_wp2_with fail
          refine HI.out.mono ?_
          rintro e w6 ⟨rfl, hw6⟩
          obtain ⟨hc6, hf6⟩ := bcell_ hw6
          have l6 : w2.heap.size < wr.heap.size := lt_ext hext lp
          go_wp2_with fail
          refine (laInts_v _ _ _ _ ws ws _ (HPR.out.ext (by repeat (first | with_reducible assumption | with_reducible exact Ext.refl _ | with_reducible apply Ext.drewN | with_reducible apply Ext.drew | with_reducible apply Ext.alloc | with_reducible refine Ext.set ?_ (by first | (simp; done) | (simp; omega)) _ | with_reducible refine Ext.next ?_ (by with_reducible assumption)))) (HN4.out.ext (by repeat (first | with_reducible assumption | with_reducible exact Ext.refl _ | with_reducible apply Ext.drewN | with_reducible apply Ext.drew | with_reducible apply Ext.alloc | with_reducible refine Ext.set ?_ (by first | (simp; done) | (simp; omega)) _ | with_reducible refine Ext.next ?_ (by with_reducible assumption)))) (by omega) (by omega) (decide_eq_true rfl)).mono ?_
          rintro e w7 ⟨rfl, hw7⟩
          obtain ⟨hc7, hf7⟩ := bcell_ hw7
          have l7 := lt_ext hw6 l6
          go_wp2_with fail
          refine (laInts_v _ _ _ _ ins ins _ (HM4.out.2.2.1.ext (by repeat (first | with_reducible assumption | with_reducible exact Ext.refl _ | with_reducible apply Ext.drewN | with_reducible apply Ext.drew | with_reducible apply Ext.alloc | with_reducible refine Ext.set ?_ (by first | (simp; done) | (simp; omega)) _ | with_reducible refine Ext.next ?_ (by with_reducible assumption)))) (HQ4.out.ext (by repeat (first | with_reducible assumption | with_reducible exact Ext.refl _ | with_reducible apply Ext.drewN | with_reducible apply Ext.drew | with_reducible apply Ext.alloc | with_reducible refine Ext.set ?_ (by first | (simp; done) | (simp; omega)) _ | with_reducible refine Ext.next ?_ (by with_reducible assumption)))) (by omega) (by omega) (decide_eq_true rfl)).mono ?_
          rintro e w8 ⟨rfl, hw8⟩
          obtain ⟨hc8, hf8⟩ := bcell_ hw8
          have l8 := lt_ext hw7 l7
          go_wp2_with fail
          refine (laInts_v _ _ _ _ [0, 0, 0, 0] [0, 0, 0, 0] _ (HM4.out.1.ext (by repeat (first | with_reducible assumption | with_reducible exact Ext.refl _ | with_reducible apply Ext.drewN | with_reducible apply Ext.drew | with_reducible apply Ext.alloc | with_reducible refine Ext.set ?_ (by first | (simp; done) | (simp; omega)) _ | with_reducible refine Ext.next ?_ (by with_reducible assumption)))) (Row.new _ _ _) (by simp) (by simp) (decide_eq_true rfl)).mono ?_
          rintro e w9 ⟨rfl, hw9⟩
          obtain ⟨hc9, hf9⟩ := bcell_ hw9
          have l9 := lt_ext hw8 l8
          have l10 : w2.heap.size < w8.heap.size + 1 := by omega
          go_wp2
          go_ret
          exact ⟨rfl, HX4.out.next (by repeat (first | with_reducible assumption | with_reducible exact Ext.refl _ | with_reducible apply Ext.drewN | with_reducible apply Ext.drew | with_reducible apply Ext.alloc | with_reducible refine Ext.set ?_ (by first | (simp; done) | (simp; omega)) _ | with_reducible refine Ext.next ?_ (by with_reducible assumption)))⟩

set_option maxRecDepth 100000 in
theorem lifted (os : Os) (started : os.Started) (H : Type) (enc : TypeId × Value → H) :
    ReturnsInHanded {} Try.checked os 3 .any (Rows.fnMchNewSpec.pre6 enc Try.prog Try.f3 Rows.fnMchNewRow.domain false) (Rows.fnMchNewSpec.post enc Try.prog Try.f3 false true false false) := by
  refine returnsInHanded_of_change (C := Try.checked) ownKnob_ started (by kernel_rfl) Try.func3
    (ChangeSpec.witness6 (enc := enc) (C := Try.checked) false ⟨#[], #[.slice none 0 0], []⟩ 8 (by kernel_rfl) (by kernel_rfl) (by kernel_rfl) (by kernel_rfl)) ?_
  intro W base args ds gs before hval0 hW hcnd _
  have hval : ∀ (j : Nat) t v, Try.f3.params[j]? = some t → args[j]? = some v → Value.okWide Try.prog W .any base t v := hval0
  have hW' := hW
  obtain ⟨p, q, hA0, hV, rfl, hfz, hnd⟩ := hW
  have hA : DataW.TrodAll enc Try.prog W 0 (fun _ => true) true Try.f3.params.toList args.toList ds p := hA0
  rw [Try.params3] at hA hval
  obtain ⟨v0, vs0, d0, ds0, p0, q0, hargs, rfl, rfl, g0, r0⟩ := trodAll_cons hA
  obtain ⟨rfl, rfl, rfl⟩ := trodAll_nil r0
  obtain rfl : args = #[v0] := by cases args; simp_all
  obtain ⟨rfl, rfl⟩ := trodVars_none hV
  have lt0 : ∀ x ∈ p0, x.block < W.heap.size := by obtain ⟨m, hm⟩ := g0; exact DataW.trod_lt m _ _ _ hm
  obtain ⟨A0, k0, bs0, e0, h0, s0⟩ := read_bytes (hval 0 22 v0 rfl rfl) g0
  subst e0
  clear hA0 hval0
  refine (walk A0 k0 bs0 W h0 s0).mono fun e W' ⟨he, bel⟩ => ?_
  subst he
  exact ⟨_, rfl, _, _, _, [], _, [], hW', trodAll_mk1 (shut_bool Try.underlying4 _), (trodAll_cons_mk (Below.trod laidOut_ (by kernel_rfl) (of_decide_eq_true (by kernel_rfl)) g0 bel.out lt0) trodAll_mk0), rfl, bel.out.frame _, fun h => by cases h⟩
theorem cf0 : (fun (P : Program) (f : FuncId) (fn : Func) (s : ChangeSpec) (c : OpenClaim) => (c.wf (OpenSpec.ofChange s) : Bool)) Try.prog 3 Try.f3 Rows.fnMchNewSpec Rows.fnMchNewRow = true := by kernel_rfl
theorem cf3 : (fun (P : Program) (f : FuncId) (fn : Func) (s : ChangeSpec) (c : OpenClaim) => (fn.params.all (P.readableRec ·) : Bool)) Try.prog 3 Try.f3 Rows.fnMchNewSpec Rows.fnMchNewRow = true := by kernel_rfl
theorem cf4 : (fun (P : Program) (f : FuncId) (fn : Func) (s : ChangeSpec) (c : OpenClaim) => (namedTie P c.named s.vars : Bool)) Try.prog 3 Try.f3 Rows.fnMchNewSpec Rows.fnMchNewRow = true := by kernel_rfl
theorem cf5 : (fun (P : Program) (f : FuncId) (fn : Func) (s : ChangeSpec) (c : OpenClaim) => ((c.stops == []) : Bool)) Try.prog 3 Try.f3 Rows.fnMchNewSpec Rows.fnMchNewRow = true := by kernel_rfl
theorem cf7 : (fun (P : Program) (f : FuncId) (fn : Func) (s : ChangeSpec) (c : OpenClaim) => ((c.knobs == []) : Bool)) Try.prog 3 Try.f3 Rows.fnMchNewSpec Rows.fnMchNewRow = true := by kernel_rfl
theorem cf9 : (fun (P : Program) (f : FuncId) (fn : Func) (s : ChangeSpec) (c : OpenClaim) => ((c.inPlace == P.inPlace f) : Bool)) Try.prog 3 Try.f3 Rows.fnMchNewSpec Rows.fnMchNewRow = true := by kernel_rfl
theorem cf10 : (fun (P : Program) (f : FuncId) (fn : Func) (s : ChangeSpec) (c : OpenClaim) => ((c.unfollowed == P.unfollowed f) : Bool)) Try.prog 3 Try.f3 Rows.fnMchNewSpec Rows.fnMchNewRow = true := by kernel_rfl
theorem cf11 : (fun (P : Program) (f : FuncId) (fn : Func) (s : ChangeSpec) (c : OpenClaim) => ((c.recurses == P.recurses f) : Bool)) Try.prog 3 Try.f3 Rows.fnMchNewSpec Rows.fnMchNewRow = true := by kernel_rfl
theorem cf12 : (fun (P : Program) (f : FuncId) (fn : Func) (s : ChangeSpec) (c : OpenClaim) => ((c.named == P.varsNamed f) : Bool)) Try.prog 3 Try.f3 Rows.fnMchNewSpec Rows.fnMchNewRow = true := by kernel_rfl
theorem cf13 : (fun (P : Program) (f : FuncId) (fn : Func) (s : ChangeSpec) (c : OpenClaim) => ((c.maps == (fn.params.toList ++ s.plain.varTypes P).any (P.mapsRec ·)) : Bool)) Try.prog 3 Try.f3 Rows.fnMchNewSpec Rows.fnMchNewRow = true := by kernel_rfl
theorem cf14 : (fun (P : Program) (f : FuncId) (fn : Func) (s : ChangeSpec) (c : OpenClaim) => ((c.ifaces == (fn.params.toList ++ s.plain.varTypes P).any (P.ifacesRec ·)) : Bool)) Try.prog 3 Try.f3 Rows.fnMchNewSpec Rows.fnMchNewRow = true := by kernel_rfl
theorem cf15 : (fun (P : Program) (f : FuncId) (fn : Func) (s : ChangeSpec) (c : OpenClaim) => ((c.mapsOut == P.mapsAmong fn.resultTypes.toList) : Bool)) Try.prog 3 Try.f3 Rows.fnMchNewSpec Rows.fnMchNewRow = true := by kernel_rfl
theorem cf16 : (fun (P : Program) (f : FuncId) (fn : Func) (s : ChangeSpec) (c : OpenClaim) => ((c.loops == (fn.params.toList ++ s.plain.varTypes P).any (P.loopsFrom ·)) : Bool)) Try.prog 3 Try.f3 Rows.fnMchNewSpec Rows.fnMchNewRow = true := by kernel_rfl
theorem cf17 : (fun (P : Program) (f : FuncId) (fn : Func) (s : ChangeSpec) (c : OpenClaim) => ((c.wideKeys == (fn.params.toList ++ s.plain.varTypes P ++ fn.resultTypes.toList).any (P.wideKeysFrom ·)) : Bool)) Try.prog 3 Try.f3 Rows.fnMchNewSpec Rows.fnMchNewRow = true := by kernel_rfl
theorem cf18 : (fun (P : Program) (f : FuncId) (fn : Func) (s : ChangeSpec) (c : OpenClaim) => (s.vars.all (P.varReadable ·) : Bool)) Try.prog 3 Try.f3 Rows.fnMchNewSpec Rows.fnMchNewRow = true := by kernel_rfl
theorem cf19 : (fun (P : Program) (f : FuncId) (fn : Func) (s : ChangeSpec) (c : OpenClaim) => (fn.resultTypes.all (fun t => P.readableRec t && decide (t < P.types.size)) : Bool)) Try.prog 3 Try.f3 Rows.fnMchNewSpec Rows.fnMchNewRow = true := by kernel_rfl
theorem cf20 : (fun (P : Program) (f : FuncId) (fn : Func) (s : ChangeSpec) (c : OpenClaim) => ((c.ifacesOut == fn.resultTypes.toList.any (P.ifacesRec ·)) : Bool)) Try.prog 3 Try.f3 Rows.fnMchNewSpec Rows.fnMchNewRow = true := by kernel_rfl
theorem cf21 : (fun (P : Program) (f : FuncId) (fn : Func) (s : ChangeSpec) (c : OpenClaim) => ((c.loopsOut == fn.resultTypes.toList.any (P.loopsFrom ·)) : Bool)) Try.prog 3 Try.f3 Rows.fnMchNewSpec Rows.fnMchNewRow = true := by kernel_rfl
theorem cf23 : (fun (P : Program) (f : FuncId) (fn : Func) (s : ChangeSpec) (c : OpenClaim) => (c.shortTexts.isNone : Bool)) Try.prog 3 Try.f3 Rows.fnMchNewSpec Rows.fnMchNewRow = true := by kernel_rfl
theorem cf28 : (fun (P : Program) (f : FuncId) (fn : Func) (s : ChangeSpec) (c : OpenClaim) => ((c.kinds == (if c.domain.isEmpty then [] else fn.params.toList.map fun t => match P.underlying t with | some (.int k) => some k | _ => none)) : Bool)) Try.prog 3 Try.f3 Rows.fnMchNewSpec Rows.fnMchNewRow = true := by kernel_rfl
theorem cf29 : (fun (P : Program) (f : FuncId) (fn : Func) (s : ChangeSpec) (c : OpenClaim) => ((c.pinned == c.pinnedBy) : Bool)) Try.prog 3 Try.f3 Rows.fnMchNewSpec Rows.fnMchNewRow = true := by kernel_rfl
theorem cf30 : (fun (P : Program) (f : FuncId) (fn : Func) (s : ChangeSpec) (c : OpenClaim) => ((c.veiled == (fn.params.toList ++ s.plain.varTypes P ++ fn.resultTypes.toList).any (P.veiledRec ·)) : Bool)) Try.prog 3 Try.f3 Rows.fnMchNewSpec Rows.fnMchNewRow = true := by kernel_rfl
theorem cf31 : (fun (P : Program) (f : FuncId) (fn : Func) (s : ChangeSpec) (c : OpenClaim) => (c.veiledFits P fn.params.toList (fn.params.toList ++ s.plain.varTypes P ++ fn.resultTypes.toList) : Bool)) Try.prog 3 Try.f3 Rows.fnMchNewSpec Rows.fnMchNewRow = true := by kernel_rfl

set_option maxRecDepth 100000 in
theorem closed : joinedFacts Try.prog 3 Try.f3 Rows.fnMchNewSpec Rows.fnMchNewRow = true := by
  unfold joinedFacts
  exact (band (band (band (band (band (band (band (band (band (band (band (band (band (band (band (band (band (band (band (band (band (band (band (band (band (band (band (band (band (band (band cf0 pf1) pf2) cf3) cf4) cf5) pf6) cf7) pf8) cf9) cf10) cf11) cf12) cf13) cf14) cf15) cf16) cf17) cf18) cf19) cf20) cf21) pf22) cf23) pf24) pf25) pf26) pf27) cf28) cf29) cf30) cf31)
theorem inst : Try.f3.isInstance Try.prog Rows.fnMchNewRow.origin Rows.fnMchNewRow.targs := of_decide_eq_true (by kernel_rfl)
theorem wrap_ : Try.f3.isWrapper Try.prog Rows.fnMchNewRow.wrapper Rows.fnMchNewRow.mainSum := by
  unfold Func.isWrapper
  rw [if_neg (by decide +kernel)]
  exact ⟨rfl, rfl⟩

theorem over : Rows.fnMchNewRow.holds Try.pinned (OpenSpec.ofChange Rows.fnMchNewSpec) :=
  OpenClaim.holds_of_wide 3 Try.f3 rfl rfl rfl rfl rfl rfl rfl ⟨rfl, rfl, rfl, rfl, rfl⟩ rfl rfl rfl rfl rfl (by as_aux_lemma => kernel_rfl) Try.func3 closed inst wrap_
    (fun os started H enc _ => lifted os started H enc)

theorem proved : Rows.FnMchNewSaid := over
#print axioms proved
end Go.Proofs.Ytcjeeggffeoilaa.fnMchNew
