/- A new machine: contracts of MchNew of both sides. Conditions: lengths that a machine can hold. -/
import Derived.Test.YtcjeeggffeoilaaME
import Derived.Test.YtcjeeggffeoilaaDW
import Derived.Laws.CopyOwn
import Derived.Deep.OwnRows
import Derived.Deep.RegionHeld3
import Derived.Deep.DeepCutAuto
namespace Go.Proofs.Ytcjeeggffeoilaa
open Go Go.RowKit
set_option linter.unusedVariables false
set_option linter.unusedSimpArgs false

theorem nilI (TI : TypeId) (w : World) (lo : Nat) : OI TI w lo none 0 [] := ⟨rfl, .inl ⟨rfl, rfl⟩⟩
/-- Words, and noughts behind them: 64 in all. -/
def padM (ws : List Int) : List Int := ws ++ List.replicate (64 - ws.length) 0
theorem padM_length {ws : List Int} (h : ws.length ≤ 64) : (padM ws).length = 64 := by simp [padM]; omega
theorem padM_lt {ws : List Int} {j : Nat} (h : j < ws.length) : (padM ws)[j]? = ws[j]? := by unfold padM; exact List.getElem?_append_left h
theorem padM_ge {ws : List Int} {j : Nat} (h : ¬ j < ws.length) (hj : j < 64) : (padM ws)[j]? = some 0 := by
  unfold padM
  rw [List.getElem?_append_right (by omega), List.getElem?_replicate, if_pos (by omega)]
def newOk (ws is : List Int) : Bool := !decide ((64 : Int) < ws.length) && (wordsB ws && wordsB is)
def newM (ws is : List Int) : List Int × Int × List Int × Int × Bool × Bool × Int × List Int × List Int × Int := if newOk ws is then ([0, 0, 0, 0], 0, padM ws, 0, false, false, 0, is, [], 0) else ([], 0, [], 0, false, false, 0, [], [], 0)
theorem newM_no {ws is : List Int} (h : newOk ws is = false) : newM ws is = ([], 0, [], 0, false, false, 0, [], [], 0) := by unfold newM; rw [h]; rfl
theorem newM_yes {ws is : List Int} (h : newOk ws is = true) : newM ws is = ([0, 0, 0, 0], 0, padM ws, 0, false, false, 0, is, [], 0) := by unfold newM; rw [h]; rfl
/-- A machine's rows lie apart. -/
def Sep (m : Mc) : Prop := ∀ b, (atB m.A0 b → ¬ atB m.A2 b) ∧ (atB m.A0 b → ¬ atB m.A7 b) ∧ (atB m.A2 b → ¬ atB m.A7 b) ∧ ¬ atB m.A8 b
def RetMs (TI : TypeId) (w : World) (d : List Int × Int × List Int × Int × Bool × Bool × Int × List Int × List Int × Int) (e : Ending) (w' : World) : Prop := ∃ m : Mc, e = .returned m.val ∧ m.dat = d ∧ OMc TI w' w.heap.size m ∧ Sep m ∧ Ext w w'
theorem not_atB (b : Nat) : ¬ atB none b := by rintro ⟨_, _, e⟩; cases e
theorem atB_some {g b : Nat} (h : atB (some ⟨g, 0, none⟩) b) : b = g := by obtain ⟨_, _, e⟩ := h; injection e with e; injection e with e; exact e.symm

theorem made2 (TI : TypeId) (w : World) (o1 o2 : Obj) : OI TI (((w.alloc o1).alloc o2).alloc (.cells #[] TI)) (w.heap.size + 1 + 1) (some ⟨w.heap.size + 1 + 1, 0, none⟩) 0 [] := by
  have := OI.made (TI := TI) ((w.alloc o1).alloc o2) (lo := w.heap.size + 1 + 1) (by simp)
  simpa using this
theorem lit4 (TI : TypeId) (w : World) (o1 o2 : Obj) (e : o2 = .cells #[.int .i64 0, .int .i64 0, .int .i64 0, .int .i64 0] TI := by rfl) : OI TI ((w.alloc o1).alloc o2) (w.heap.size + 1) (some ⟨w.heap.size + 1, 0, none⟩) 4 [0, 0, 0, 0] := by
  subst e
  have := World.ownsRow_lit (w.alloc o1) (e := TI) (size := 1) (base := w.heap.size + 1) #[.int .i64 0, .int .i64 0, .int .i64 0, .int .i64 0] 4 (by simp) (by unfold maxLen; omega) rfl
  unfold OI
  simpa using this
set_option maxHeartbeats 2000000 in
theorem specMchNew (A A' : Option Addr) (k k' : Nat) (ws is : List Int) (w : World) (h : RI 3 w A ws) (h' : RI 3 w A' is) (hz' : A' = none → k' = 0) (hn : ws.length ≤ 1048576) (hn' : is.length ≤ 1048576) :
    Calls Try.prog 9 #[.slice A ws.length k, .slice A' is.length k'] w (RetMs 3 w (newM ws is)) := by
  cases b1 : decide ((64 : Int) < ws.length)
  rotate_left
  · have E := hid (newM_no (ws := ws) (is := is) (by unfold newOk; rw [b1]; rfl))
    go_enter Try.func9, Try.ntmps9
    go_wp2
    refine bodyPost_ret (v := .agg #[.slice none 0 0, .int .i64 0, .slice none 0 0, .int .i64 0, .bool false, .bool false, .int .i64 0, .slice none 0 0, .slice none 0 0, .int .i64 0]) (by simp [results, Try.results9, go_sem, *]) rfl ⟨⟨none, 0, [], 0, none, 0, [], 0, false, false, 0, none, 0, [], none, 0, [], 0⟩, rfl, E.out.symm, ⟨nilI _ _ _, nilI _ _ _, nilI _ _ _, nilI _ _ _⟩, fun b => ⟨fun h => absurd h (not_atB b), fun h => absurd h (not_atB b), fun h => absurd h (not_atB b), not_atB b⟩, (by repeat (first | with_reducible assumption | with_reducible exact Ext.refl _ | with_reducible apply Ext.drewN | with_reducible apply Ext.drew | with_reducible apply Ext.alloc | with_reducible refine Ext.set ?_ (by first | (simp; done) | (simp; omega)) _ | with_reducible refine Ext.next ?_ (by with_reducible assumption)))⟩
  cases b2 : wordsB ws
  · have E := hid (newM_no (ws := ws) (is := is) (by unfold newOk; rw [b2]; simp))
    have B2 := hid b2
    clear b2
    go_enter Try.func9, Try.ntmps9
    go_wp2_with fail
    refine (specL1Words _ _ ws _ (h.ext (by repeat (first | with_reducible assumption | with_reducible exact Ext.refl _ | with_reducible apply Ext.drewN | with_reducible apply Ext.drew | with_reducible apply Ext.alloc | with_reducible refine Ext.set ?_ (by first | (simp; done) | (simp; omega)) _ | with_reducible refine Ext.next ?_ (by with_reducible assumption)))) (by omega)).mono ?_
    rintro e w' ⟨rfl, rfl⟩
    rw [B2.out]
    go_wp2
    refine bodyPost_ret (v := .agg #[.slice none 0 0, .int .i64 0, .slice none 0 0, .int .i64 0, .bool false, .bool false, .int .i64 0, .slice none 0 0, .slice none 0 0, .int .i64 0]) (by simp [results, Try.results9, go_sem, *]) rfl ⟨⟨none, 0, [], 0, none, 0, [], 0, false, false, 0, none, 0, [], none, 0, [], 0⟩, rfl, E.out.symm, ⟨nilI _ _ _, nilI _ _ _, nilI _ _ _, nilI _ _ _⟩, fun b => ⟨fun h => absurd h (not_atB b), fun h => absurd h (not_atB b), fun h => absurd h (not_atB b), not_atB b⟩, (by repeat (first | with_reducible assumption | with_reducible exact Ext.refl _ | with_reducible apply Ext.drewN | with_reducible apply Ext.drew | with_reducible apply Ext.alloc | with_reducible refine Ext.set ?_ (by first | (simp; done) | (simp; omega)) _ | with_reducible refine Ext.next ?_ (by with_reducible assumption)))⟩
  cases b3 : wordsB is
  · have E := hid (newM_no (ws := ws) (is := is) (by unfold newOk; rw [b3]; simp))
    have B2 := hid b2
    have B3 := hid b3
    clear b2 b3
    go_enter Try.func9, Try.ntmps9
    go_wp2_with fail
    refine (specL1Words _ _ ws _ (h.ext (by repeat (first | with_reducible assumption | with_reducible exact Ext.refl _ | with_reducible apply Ext.drewN | with_reducible apply Ext.drew | with_reducible apply Ext.alloc | with_reducible refine Ext.set ?_ (by first | (simp; done) | (simp; omega)) _ | with_reducible refine Ext.next ?_ (by with_reducible assumption)))) (by omega)).mono ?_
    rintro e w' ⟨rfl, rfl⟩
    rw [B2.out]
    go_wp2_with fail
    refine (specL1Words _ _ is _ (h'.ext (by repeat (first | with_reducible assumption | with_reducible exact Ext.refl _ | with_reducible apply Ext.drewN | with_reducible apply Ext.drew | with_reducible apply Ext.alloc | with_reducible refine Ext.set ?_ (by first | (simp; done) | (simp; omega)) _ | with_reducible refine Ext.next ?_ (by with_reducible assumption)))) (by omega)).mono ?_
    rintro e w' ⟨rfl, rfl⟩
    rw [B3.out]
    go_wp2
    refine bodyPost_ret (v := .agg #[.slice none 0 0, .int .i64 0, .slice none 0 0, .int .i64 0, .bool false, .bool false, .int .i64 0, .slice none 0 0, .slice none 0 0, .int .i64 0]) (by simp [results, Try.results9, go_sem, *]) rfl ⟨⟨none, 0, [], 0, none, 0, [], 0, false, false, 0, none, 0, [], none, 0, [], 0⟩, rfl, E.out.symm, ⟨nilI _ _ _, nilI _ _ _, nilI _ _ _, nilI _ _ _⟩, fun b => ⟨fun h => absurd h (not_atB b), fun h => absurd h (not_atB b), fun h => absurd h (not_atB b), not_atB b⟩, (by repeat (first | with_reducible assumption | with_reducible exact Ext.refl _ | with_reducible apply Ext.drewN | with_reducible apply Ext.drew | with_reducible apply Ext.alloc | with_reducible refine Ext.set ?_ (by first | (simp; done) | (simp; omega)) _ | with_reducible refine Ext.next ?_ (by with_reducible assumption)))⟩
  have E := hid (newM_yes (ws := ws) (is := is) (by unfold newOk; rw [b1, b2, b3]; rfl))
  have hw64 : ws.length ≤ 64 := by have := of_decide_eq_false b1; omega
  have B2 := hid b2
  have B3 := hid b3
  clear b2 b3
  go_enter Try.func9, Try.ntmps9
  go_wp2_with fail
  refine (specL1Words _ _ ws _ (h.ext (by repeat (first | with_reducible assumption | with_reducible exact Ext.refl _ | with_reducible apply Ext.drewN | with_reducible apply Ext.drew | with_reducible apply Ext.alloc | with_reducible refine Ext.set ?_ (by first | (simp; done) | (simp; omega)) _ | with_reducible refine Ext.next ?_ (by with_reducible assumption)))) (by omega)).mono ?_
  rintro e w' ⟨rfl, rfl⟩
  rw [B2.out]
  go_wp2_with fail
  refine (specL1Words _ _ is _ (h'.ext (by repeat (first | with_reducible assumption | with_reducible exact Ext.refl _ | with_reducible apply Ext.drewN | with_reducible apply Ext.drew | with_reducible apply Ext.alloc | with_reducible refine Ext.set ?_ (by first | (simp; done) | (simp; omega)) _ | with_reducible refine Ext.next ?_ (by with_reducible assumption)))) (by omega)).mono ?_
  rintro e w' ⟨rfl, rfl⟩
  rw [B3.out]
  go_wp2_with (at_builtin; (refine app_ints Try.underlying23 info_int rfl _ _ rfl (w.heap.size + 1 + 1) (some ⟨w.heap.size + 1 + 1, 0, none⟩) 0 [] ((made2 _ w _ _).ext (by repeat (first | with_reducible assumption | with_reducible exact Ext.refl _ | with_reducible apply Ext.drewN | with_reducible apply Ext.drew | with_reducible apply Ext.alloc | with_reducible refine Ext.set ?_ (by first | (simp; done) | (simp; omega)) _ | with_reducible refine Ext.next ?_ (by with_reducible assumption)))) 0 rfl rfl A' k' is is.length rfl rfl (h'.ext (by repeat (first | with_reducible assumption | with_reducible exact Ext.refl _ | with_reducible apply Ext.drewN | with_reducible apply Ext.drew | with_reducible apply Ext.alloc | with_reducible refine Ext.set ?_ (by first | (simp; done) | (simp; omega)) _ | with_reducible refine Ext.next ?_ (by with_reducible assumption)))) hz' is.length (by omega) (by omega) (by simp) ?_); (intro A7 k7 w1 ho1 hu1))
  obtain ⟨hc1, hf1⟩ : (∀ b o, b < w.heap.size + 1 + 1 → w1.cell? ⟨b, o, none⟩ = (((w.alloc (.cells #[.slice none 0 0, .int .i64 0, .slice none 0 0, .int .i64 0, .bool false, .bool false, .int .i64 0, .slice none 0 0, .slice none 0 0, .int .i64 0] 27)).alloc (.cells #[.int .i64 0, .int .i64 0, .int .i64 0, .int .i64 0] 3)).alloc (.cells #[] 3)).cell? ⟨b, o, none⟩) ∧ (∀ b o, b < w.heap.size + 1 + 1 → w1.frozen? ⟨b, o, none⟩ = (((w.alloc (.cells #[.slice none 0 0, .int .i64 0, .slice none 0 0, .int .i64 0, .bool false, .bool false, .int .i64 0, .slice none 0 0, .slice none 0 0, .int .i64 0] 27)).alloc (.cells #[.int .i64 0, .int .i64 0, .int .i64 0, .int .i64 0] 3)).alloc (.cells #[] 3)).frozen? ⟨b, o, none⟩) :=
    ⟨fun b o hb => hu1.cell (p := ⟨b, o, none⟩) (by simp; omega) (fun hh => by have := atB_some hh; simp only at this; omega), fun b o hb => hu1.frozen (p := ⟨b, o, none⟩) (by simp; omega) (fun hh => by have := atB_some hh; simp only at this; omega)⟩
  have hs1 := hu1.size
  simp at hs1
  have hz1 : w.heap.size < w1.heap.size := by omega
  have hy1 : w.heap.size + 1 < w1.heap.size := by omega
  have HX1 : Hid (Ext w w1) := hid (((Upd.of_ext (S := fun _ => False) (by repeat (first | with_reducible assumption | with_reducible exact Ext.refl _ | with_reducible apply Ext.drewN | with_reducible apply Ext.drew | with_reducible apply Ext.alloc | with_reducible refine Ext.set ?_ (by first | (simp; done) | (simp; omega)) _ | with_reducible refine Ext.next ?_ (by with_reducible assumption)))).far2 hu1 fun b hb => by have := atB_some hb; simp; omega).ext fun b hb => hb.elim)
  have HO1 := hid ho1
  have HG1 : Hid (OI 3 w1 (w.heap.size + 1) (some ⟨w.heap.size + 1, 0, none⟩) 4 [0, 0, 0, 0]) := hid (own_upd' ((lit4 3 w _ _).ext (by repeat (first | with_reducible assumption | with_reducible exact Ext.refl _ | with_reducible apply Ext.drewN | with_reducible apply Ext.drew | with_reducible apply Ext.alloc | with_reducible refine Ext.set ?_ (by first | (simp; done) | (simp; omega)) _ | with_reducible refine Ext.next ?_ (by with_reducible assumption)))) hu1 fun b hb hh => by have h1 := atB_some hb; have h2 := atB_some hh; omega)
  clear ho1 hu1
  go_wp2
  go_loopw [6, 7] (fun i v wr => ∃ (j : Nat) (A2 : Option Addr) (k2 : Nat), i = .int .i64 j ∧ j ≤ 64 ∧ wr.cell? ⟨w1.heap.size, 0, none⟩ = some (.slice (some ⟨w.heap.size + 1, 0, none⟩) 4 4) ∧ wr.cell? ⟨w1.heap.size, 1, none⟩ = some (.int .i64 0) ∧ wr.cell? ⟨w1.heap.size, 2, none⟩ = some (.slice A2 j k2) ∧ wr.cell? ⟨w1.heap.size, 3, none⟩ = some (.int .i64 0) ∧ wr.cell? ⟨w1.heap.size, 4, none⟩ = some (.bool false) ∧ wr.cell? ⟨w1.heap.size, 5, none⟩ = some (.bool false) ∧ wr.cell? ⟨w1.heap.size, 6, none⟩ = some (.int .i64 0) ∧ wr.cell? ⟨w1.heap.size, 7, none⟩ = some (.slice A7 is.length k7) ∧ wr.cell? ⟨w1.heap.size, 8, none⟩ = some (.slice none 0 0) ∧ wr.cell? ⟨w1.heap.size, 9, none⟩ = some (.int .i64 0) ∧ wr.frozen? ⟨w1.heap.size, 2, none⟩ = false ∧ OI 3 wr (w1.heap.size + 1) A2 k2 ((padM ws).take j) ∧ Ext w1 wr) (fun i _ _ => 64 - (intOf i).toNat)
  case atStart => exact ⟨0, none, 0, rfl, by omega, by go_simp, by go_simp, by go_simp, by go_simp, by go_simp, by go_simp, by go_simp, by go_simp, by go_simp, by go_simp, by go_simp, nilI _ _ _, (by repeat (first | with_reducible assumption | with_reducible exact Ext.refl _ | with_reducible apply Ext.drewN | with_reducible apply Ext.drew | with_reducible apply Ext.alloc | with_reducible refine Ext.set ?_ (by first | (simp; done) | (simp; omega)) _ | with_reducible refine Ext.next ?_ (by with_reducible assumption)))⟩
  case round =>
    obtain ⟨j, A2, k2, rfl, hj, l0, l1, l2, l3, l4, l5, l6, l7, l8, l9, lf, ho, hext⟩ := hrel
    have hlp : w1.heap.size < wr.heap.size := World.block_lt_of_cell? _ _ l2
    have hpl := padM_length hw64
    by_cases hlt : j < 64
    · obtain ⟨x, hx⟩ : ∃ x, (padM ws)[j]? = some x := ⟨(padM ws)[j]'(by omega), List.getElem?_eq_getElem (by omega)⟩
      have HT : Hid ((padM ws).take (j + 1) = (padM ws).take j ++ [x]) := hid (by rw [List.take_add_one, hx]; rfl)
      have hlj : ((padM ws).take j).length = j := by rw [List.length_take]; omega
      have HLJ := hid hlj
      obtain ⟨ys, hys⟩ : ∃ ys, (padM ws).take j = ys := ⟨_, rfl⟩
      rw [hys] at ho HT HLJ
      have HO := hid ho
      have HE := hid hext
      have HXW := hid (HX1.out.next hext)
      by_cases hjw : j < ws.length
      · obtain ⟨b, o, x', rfl, hb, hx', hcell⟩ := (h.ext HXW.out).at_ hjw
        obtain rfl : x = x' := by rw [padM_lt hjw, hx'] at hx; injection hx with hx; exact hx.symm
        clear hx hx' hlj hys ho hext h h'
        go_wp2_with (at_builtin; (refine app_int Try.underlying23 info_int rfl _ _ rfl (w1.heap.size + 1) A2 k2 ys (HO.out.ext (by repeat (first | with_reducible assumption | with_reducible exact Ext.refl _ | with_reducible apply Ext.drewN | with_reducible apply Ext.drew | with_reducible apply Ext.alloc | with_reducible refine Ext.set ?_ (by first | (simp; done) | (simp; omega)) _ | with_reducible refine Ext.next ?_ (by with_reducible assumption)))) j HLJ.out rfl x ⟨wr.heap.size, 0, none⟩ 1 rfl (by rw [addr_add]; go_simp) (by omega) (by simp; omega) ?_); (intro A5 k5 w5 ho5 hu5); (have hnb : ∀ o, ¬ atB A2 (⟨w1.heap.size, o, none⟩ : Addr).block := fun o hb => by (have := (own_atB HO.out hb).1; simp only at this; omega)); (have q0 : w5.cell? ⟨w1.heap.size, 0, none⟩ = some (.slice (some ⟨w.heap.size + 1, 0, none⟩) 4 4) := (hu5.cell (p := ⟨w1.heap.size, 0, none⟩) (by simp; omega) (hnb _)).trans (by go_simp)); (have q1 : w5.cell? ⟨w1.heap.size, 1, none⟩ = some (.int .i64 0) := (hu5.cell (p := ⟨w1.heap.size, 1, none⟩) (by simp; omega) (hnb _)).trans (by go_simp)); (have q2 : w5.cell? ⟨w1.heap.size, 2, none⟩ = some (.slice A2 j k2) := (hu5.cell (p := ⟨w1.heap.size, 2, none⟩) (by simp; omega) (hnb _)).trans (by go_simp)); (have q3 : w5.cell? ⟨w1.heap.size, 3, none⟩ = some (.int .i64 0) := (hu5.cell (p := ⟨w1.heap.size, 3, none⟩) (by simp; omega) (hnb _)).trans (by go_simp)); (have q4 : w5.cell? ⟨w1.heap.size, 4, none⟩ = some (.bool false) := (hu5.cell (p := ⟨w1.heap.size, 4, none⟩) (by simp; omega) (hnb _)).trans (by go_simp)); (have q5 : w5.cell? ⟨w1.heap.size, 5, none⟩ = some (.bool false) := (hu5.cell (p := ⟨w1.heap.size, 5, none⟩) (by simp; omega) (hnb _)).trans (by go_simp)); (have q6 : w5.cell? ⟨w1.heap.size, 6, none⟩ = some (.int .i64 0) := (hu5.cell (p := ⟨w1.heap.size, 6, none⟩) (by simp; omega) (hnb _)).trans (by go_simp)); (have q7 : w5.cell? ⟨w1.heap.size, 7, none⟩ = some (.slice A7 is.length k7) := (hu5.cell (p := ⟨w1.heap.size, 7, none⟩) (by simp; omega) (hnb _)).trans (by go_simp)); (have q8 : w5.cell? ⟨w1.heap.size, 8, none⟩ = some (.slice none 0 0) := (hu5.cell (p := ⟨w1.heap.size, 8, none⟩) (by simp; omega) (hnb _)).trans (by go_simp)); (have q9 : w5.cell? ⟨w1.heap.size, 9, none⟩ = some (.int .i64 0) := (hu5.cell (p := ⟨w1.heap.size, 9, none⟩) (by simp; omega) (hnb _)).trans (by go_simp)); (have qf : w5.frozen? ⟨w1.heap.size, 2, none⟩ = false := (hu5.frozen (p := ⟨w1.heap.size, 2, none⟩) (by simp; omega) (hnb _)).trans (by go_simp)); (have HO5 := hid ho5); (have hs5 := hu5.size); (simp at hs5); (have hl5 : w1.heap.size < w5.heap.size := by omega); (have HE5 : Hid (Ext w1 w5) := hid (((Upd.of_ext (S := fun _ => False) (Ext.alloc HE.out _)).far2 hu5 fun b hb => by have := (own_atB HO.out hb).1; omega).ext (fun b hb => hb.elim))); clear ho5 hu5 hnb)
        go_roundw
        case rel => exact ⟨j + 1, A5, k5, by go_num, by omega, by go_simp, by go_simp, by go_simp, by go_simp, by go_simp, by go_simp, by go_simp, by go_simp, by go_simp, by go_simp, by go_simp, by rw [HT.out]; exact own_upd' HO5.out (Upd.set (S := fun b => b = w1.heap.size) (Upd.refl _ _) (.inl rfl) _) (fun b hb e => by have := (own_atB HO5.out hb).1; omega), HE5.out.set (by simp) _⟩
        case measure => simp [intOf]; omega
      · obtain rfl : x = 0 := by rw [padM_ge hjw hlt] at hx; injection hx with hx; exact hx.symm
        clear hx hlj hys ho hext h h'
        go_wp2_with (at_builtin; (refine app_int Try.underlying23 info_int rfl _ _ rfl (w1.heap.size + 1) A2 k2 ys (HO.out.ext (by repeat (first | with_reducible assumption | with_reducible exact Ext.refl _ | with_reducible apply Ext.drewN | with_reducible apply Ext.drew | with_reducible apply Ext.alloc | with_reducible refine Ext.set ?_ (by first | (simp; done) | (simp; omega)) _ | with_reducible refine Ext.next ?_ (by with_reducible assumption)))) j HLJ.out rfl 0 ⟨wr.heap.size, 0, none⟩ 1 rfl (by rw [addr_add]; go_simp) (by omega) (by simp; omega) ?_); (intro A5 k5 w5 ho5 hu5); (have hnb : ∀ o, ¬ atB A2 (⟨w1.heap.size, o, none⟩ : Addr).block := fun o hb => by (have := (own_atB HO.out hb).1; simp only at this; omega)); (have q0 : w5.cell? ⟨w1.heap.size, 0, none⟩ = some (.slice (some ⟨w.heap.size + 1, 0, none⟩) 4 4) := (hu5.cell (p := ⟨w1.heap.size, 0, none⟩) (by simp; omega) (hnb _)).trans (by go_simp)); (have q1 : w5.cell? ⟨w1.heap.size, 1, none⟩ = some (.int .i64 0) := (hu5.cell (p := ⟨w1.heap.size, 1, none⟩) (by simp; omega) (hnb _)).trans (by go_simp)); (have q2 : w5.cell? ⟨w1.heap.size, 2, none⟩ = some (.slice A2 j k2) := (hu5.cell (p := ⟨w1.heap.size, 2, none⟩) (by simp; omega) (hnb _)).trans (by go_simp)); (have q3 : w5.cell? ⟨w1.heap.size, 3, none⟩ = some (.int .i64 0) := (hu5.cell (p := ⟨w1.heap.size, 3, none⟩) (by simp; omega) (hnb _)).trans (by go_simp)); (have q4 : w5.cell? ⟨w1.heap.size, 4, none⟩ = some (.bool false) := (hu5.cell (p := ⟨w1.heap.size, 4, none⟩) (by simp; omega) (hnb _)).trans (by go_simp)); (have q5 : w5.cell? ⟨w1.heap.size, 5, none⟩ = some (.bool false) := (hu5.cell (p := ⟨w1.heap.size, 5, none⟩) (by simp; omega) (hnb _)).trans (by go_simp)); (have q6 : w5.cell? ⟨w1.heap.size, 6, none⟩ = some (.int .i64 0) := (hu5.cell (p := ⟨w1.heap.size, 6, none⟩) (by simp; omega) (hnb _)).trans (by go_simp)); (have q7 : w5.cell? ⟨w1.heap.size, 7, none⟩ = some (.slice A7 is.length k7) := (hu5.cell (p := ⟨w1.heap.size, 7, none⟩) (by simp; omega) (hnb _)).trans (by go_simp)); (have q8 : w5.cell? ⟨w1.heap.size, 8, none⟩ = some (.slice none 0 0) := (hu5.cell (p := ⟨w1.heap.size, 8, none⟩) (by simp; omega) (hnb _)).trans (by go_simp)); (have q9 : w5.cell? ⟨w1.heap.size, 9, none⟩ = some (.int .i64 0) := (hu5.cell (p := ⟨w1.heap.size, 9, none⟩) (by simp; omega) (hnb _)).trans (by go_simp)); (have qf : w5.frozen? ⟨w1.heap.size, 2, none⟩ = false := (hu5.frozen (p := ⟨w1.heap.size, 2, none⟩) (by simp; omega) (hnb _)).trans (by go_simp)); (have HO5 := hid ho5); (have hs5 := hu5.size); (simp at hs5); (have hl5 : w1.heap.size < w5.heap.size := by omega); (have HE5 : Hid (Ext w1 w5) := hid (((Upd.of_ext (S := fun _ => False) (Ext.alloc HE.out _)).far2 hu5 fun b hb => by have := (own_atB HO.out hb).1; omega).ext (fun b hb => hb.elim))); clear ho5 hu5 hnb)
        go_roundw
        case rel => exact ⟨j + 1, A5, k5, by go_num, by omega, by go_simp, by go_simp, by go_simp, by go_simp, by go_simp, by go_simp, by go_simp, by go_simp, by go_simp, by go_simp, by go_simp, by rw [HT.out]; exact own_upd' HO5.out (Upd.set (S := fun b => b = w1.heap.size) (Upd.refl _ _) (.inl rfl) _) (fun b hb e => by have := (own_atB HO5.out hb).1; omega), HE5.out.set (by simp) _⟩
        case measure => simp [intOf]; omega
    · obtain rfl : j = 64 := by omega
      rw [List.take_of_length_le (by omega)] at ho
      have HO := hid ho
      obtain ⟨hcr, hfr⟩ : (∀ b o, b < w1.heap.size → wr.cell? ⟨b, o, none⟩ = w1.cell? ⟨b, o, none⟩) ∧ (∀ b o, b < w1.heap.size → wr.frozen? ⟨b, o, none⟩ = w1.frozen? ⟨b, o, none⟩) := bcell_ hext
      have HX := hid (HX1.out.next hext)
      have HO7 := hid (HO1.out.ext hext)
      have hzr : w.heap.size < wr.heap.size := by omega
      have r0 : wr.cell? ⟨w.heap.size, 0, none⟩ = some (.slice none 0 0) := by rw [hcr _ _ (by omega), hc1 _ _ (by omega)]; go_simp
      have r1 : wr.cell? ⟨w.heap.size, 1, none⟩ = some (.int .i64 0) := by rw [hcr _ _ (by omega), hc1 _ _ (by omega)]; go_simp
      have r2 : wr.cell? ⟨w.heap.size, 2, none⟩ = some (.slice none 0 0) := by rw [hcr _ _ (by omega), hc1 _ _ (by omega)]; go_simp
      have r3 : wr.cell? ⟨w.heap.size, 3, none⟩ = some (.int .i64 0) := by rw [hcr _ _ (by omega), hc1 _ _ (by omega)]; go_simp
      have r4 : wr.cell? ⟨w.heap.size, 4, none⟩ = some (.bool false) := by rw [hcr _ _ (by omega), hc1 _ _ (by omega)]; go_simp
      have r5 : wr.cell? ⟨w.heap.size, 5, none⟩ = some (.bool false) := by rw [hcr _ _ (by omega), hc1 _ _ (by omega)]; go_simp
      have r6 : wr.cell? ⟨w.heap.size, 6, none⟩ = some (.int .i64 0) := by rw [hcr _ _ (by omega), hc1 _ _ (by omega)]; go_simp
      have r7 : wr.cell? ⟨w.heap.size, 7, none⟩ = some (.slice none 0 0) := by rw [hcr _ _ (by omega), hc1 _ _ (by omega)]; go_simp
      have r8 : wr.cell? ⟨w.heap.size, 8, none⟩ = some (.slice none 0 0) := by rw [hcr _ _ (by omega), hc1 _ _ (by omega)]; go_simp
      have r9 : wr.cell? ⟨w.heap.size, 9, none⟩ = some (.int .i64 0) := by rw [hcr _ _ (by omega), hc1 _ _ (by omega)]; go_simp
      clear ho
      go_wp2
      have hX := HX.out
      clear hcr hfr hc1 hf1
      have t0 : ((((((((((wr.setCell ⟨w.heap.size, 0, none⟩ (.slice (some ⟨w.heap.size + 1, 0, none⟩) 4 4)).setCell ⟨w.heap.size, 1, none⟩ (.int .i64 0)).setCell ⟨w.heap.size, 2, none⟩ (.slice A2 64 k2)).setCell ⟨w.heap.size, 3, none⟩ (.int .i64 0)).setCell ⟨w.heap.size, 4, none⟩ (.bool false)).setCell ⟨w.heap.size, 5, none⟩ (.bool false)).setCell ⟨w.heap.size, 6, none⟩ (.int .i64 0)).setCell ⟨w.heap.size, 7, none⟩ (.slice A7 is.length k7)).setCell ⟨w.heap.size, 8, none⟩ (.slice none 0 0)).setCell ⟨w.heap.size, 9, none⟩ (.int .i64 0)).cell? ⟨w.heap.size, 0, none⟩ = some (.slice (some ⟨w.heap.size + 1, 0, none⟩) 4 4) := by go_simp
      have t1 : ((((((((((wr.setCell ⟨w.heap.size, 0, none⟩ (.slice (some ⟨w.heap.size + 1, 0, none⟩) 4 4)).setCell ⟨w.heap.size, 1, none⟩ (.int .i64 0)).setCell ⟨w.heap.size, 2, none⟩ (.slice A2 64 k2)).setCell ⟨w.heap.size, 3, none⟩ (.int .i64 0)).setCell ⟨w.heap.size, 4, none⟩ (.bool false)).setCell ⟨w.heap.size, 5, none⟩ (.bool false)).setCell ⟨w.heap.size, 6, none⟩ (.int .i64 0)).setCell ⟨w.heap.size, 7, none⟩ (.slice A7 is.length k7)).setCell ⟨w.heap.size, 8, none⟩ (.slice none 0 0)).setCell ⟨w.heap.size, 9, none⟩ (.int .i64 0)).cell? ⟨w.heap.size, 1, none⟩ = some (.int .i64 0) := by go_simp
      have t2 : ((((((((((wr.setCell ⟨w.heap.size, 0, none⟩ (.slice (some ⟨w.heap.size + 1, 0, none⟩) 4 4)).setCell ⟨w.heap.size, 1, none⟩ (.int .i64 0)).setCell ⟨w.heap.size, 2, none⟩ (.slice A2 64 k2)).setCell ⟨w.heap.size, 3, none⟩ (.int .i64 0)).setCell ⟨w.heap.size, 4, none⟩ (.bool false)).setCell ⟨w.heap.size, 5, none⟩ (.bool false)).setCell ⟨w.heap.size, 6, none⟩ (.int .i64 0)).setCell ⟨w.heap.size, 7, none⟩ (.slice A7 is.length k7)).setCell ⟨w.heap.size, 8, none⟩ (.slice none 0 0)).setCell ⟨w.heap.size, 9, none⟩ (.int .i64 0)).cell? ⟨w.heap.size, 2, none⟩ = some (.slice A2 64 k2) := by go_simp
      have t3 : ((((((((((wr.setCell ⟨w.heap.size, 0, none⟩ (.slice (some ⟨w.heap.size + 1, 0, none⟩) 4 4)).setCell ⟨w.heap.size, 1, none⟩ (.int .i64 0)).setCell ⟨w.heap.size, 2, none⟩ (.slice A2 64 k2)).setCell ⟨w.heap.size, 3, none⟩ (.int .i64 0)).setCell ⟨w.heap.size, 4, none⟩ (.bool false)).setCell ⟨w.heap.size, 5, none⟩ (.bool false)).setCell ⟨w.heap.size, 6, none⟩ (.int .i64 0)).setCell ⟨w.heap.size, 7, none⟩ (.slice A7 is.length k7)).setCell ⟨w.heap.size, 8, none⟩ (.slice none 0 0)).setCell ⟨w.heap.size, 9, none⟩ (.int .i64 0)).cell? ⟨w.heap.size, 3, none⟩ = some (.int .i64 0) := by go_simp
      have t4 : ((((((((((wr.setCell ⟨w.heap.size, 0, none⟩ (.slice (some ⟨w.heap.size + 1, 0, none⟩) 4 4)).setCell ⟨w.heap.size, 1, none⟩ (.int .i64 0)).setCell ⟨w.heap.size, 2, none⟩ (.slice A2 64 k2)).setCell ⟨w.heap.size, 3, none⟩ (.int .i64 0)).setCell ⟨w.heap.size, 4, none⟩ (.bool false)).setCell ⟨w.heap.size, 5, none⟩ (.bool false)).setCell ⟨w.heap.size, 6, none⟩ (.int .i64 0)).setCell ⟨w.heap.size, 7, none⟩ (.slice A7 is.length k7)).setCell ⟨w.heap.size, 8, none⟩ (.slice none 0 0)).setCell ⟨w.heap.size, 9, none⟩ (.int .i64 0)).cell? ⟨w.heap.size, 4, none⟩ = some (.bool false) := by go_simp
      have t5 : ((((((((((wr.setCell ⟨w.heap.size, 0, none⟩ (.slice (some ⟨w.heap.size + 1, 0, none⟩) 4 4)).setCell ⟨w.heap.size, 1, none⟩ (.int .i64 0)).setCell ⟨w.heap.size, 2, none⟩ (.slice A2 64 k2)).setCell ⟨w.heap.size, 3, none⟩ (.int .i64 0)).setCell ⟨w.heap.size, 4, none⟩ (.bool false)).setCell ⟨w.heap.size, 5, none⟩ (.bool false)).setCell ⟨w.heap.size, 6, none⟩ (.int .i64 0)).setCell ⟨w.heap.size, 7, none⟩ (.slice A7 is.length k7)).setCell ⟨w.heap.size, 8, none⟩ (.slice none 0 0)).setCell ⟨w.heap.size, 9, none⟩ (.int .i64 0)).cell? ⟨w.heap.size, 5, none⟩ = some (.bool false) := by go_simp
      have t6 : ((((((((((wr.setCell ⟨w.heap.size, 0, none⟩ (.slice (some ⟨w.heap.size + 1, 0, none⟩) 4 4)).setCell ⟨w.heap.size, 1, none⟩ (.int .i64 0)).setCell ⟨w.heap.size, 2, none⟩ (.slice A2 64 k2)).setCell ⟨w.heap.size, 3, none⟩ (.int .i64 0)).setCell ⟨w.heap.size, 4, none⟩ (.bool false)).setCell ⟨w.heap.size, 5, none⟩ (.bool false)).setCell ⟨w.heap.size, 6, none⟩ (.int .i64 0)).setCell ⟨w.heap.size, 7, none⟩ (.slice A7 is.length k7)).setCell ⟨w.heap.size, 8, none⟩ (.slice none 0 0)).setCell ⟨w.heap.size, 9, none⟩ (.int .i64 0)).cell? ⟨w.heap.size, 6, none⟩ = some (.int .i64 0) := by go_simp
      have t7 : ((((((((((wr.setCell ⟨w.heap.size, 0, none⟩ (.slice (some ⟨w.heap.size + 1, 0, none⟩) 4 4)).setCell ⟨w.heap.size, 1, none⟩ (.int .i64 0)).setCell ⟨w.heap.size, 2, none⟩ (.slice A2 64 k2)).setCell ⟨w.heap.size, 3, none⟩ (.int .i64 0)).setCell ⟨w.heap.size, 4, none⟩ (.bool false)).setCell ⟨w.heap.size, 5, none⟩ (.bool false)).setCell ⟨w.heap.size, 6, none⟩ (.int .i64 0)).setCell ⟨w.heap.size, 7, none⟩ (.slice A7 is.length k7)).setCell ⟨w.heap.size, 8, none⟩ (.slice none 0 0)).setCell ⟨w.heap.size, 9, none⟩ (.int .i64 0)).cell? ⟨w.heap.size, 7, none⟩ = some (.slice A7 is.length k7) := by go_simp
      have t8 : ((((((((((wr.setCell ⟨w.heap.size, 0, none⟩ (.slice (some ⟨w.heap.size + 1, 0, none⟩) 4 4)).setCell ⟨w.heap.size, 1, none⟩ (.int .i64 0)).setCell ⟨w.heap.size, 2, none⟩ (.slice A2 64 k2)).setCell ⟨w.heap.size, 3, none⟩ (.int .i64 0)).setCell ⟨w.heap.size, 4, none⟩ (.bool false)).setCell ⟨w.heap.size, 5, none⟩ (.bool false)).setCell ⟨w.heap.size, 6, none⟩ (.int .i64 0)).setCell ⟨w.heap.size, 7, none⟩ (.slice A7 is.length k7)).setCell ⟨w.heap.size, 8, none⟩ (.slice none 0 0)).setCell ⟨w.heap.size, 9, none⟩ (.int .i64 0)).cell? ⟨w.heap.size, 8, none⟩ = some (.slice none 0 0) := by go_simp
      have t9 : ((((((((((wr.setCell ⟨w.heap.size, 0, none⟩ (.slice (some ⟨w.heap.size + 1, 0, none⟩) 4 4)).setCell ⟨w.heap.size, 1, none⟩ (.int .i64 0)).setCell ⟨w.heap.size, 2, none⟩ (.slice A2 64 k2)).setCell ⟨w.heap.size, 3, none⟩ (.int .i64 0)).setCell ⟨w.heap.size, 4, none⟩ (.bool false)).setCell ⟨w.heap.size, 5, none⟩ (.bool false)).setCell ⟨w.heap.size, 6, none⟩ (.int .i64 0)).setCell ⟨w.heap.size, 7, none⟩ (.slice A7 is.length k7)).setCell ⟨w.heap.size, 8, none⟩ (.slice none 0 0)).setCell ⟨w.heap.size, 9, none⟩ (.int .i64 0)).cell? ⟨w.heap.size, 9, none⟩ = some (.int .i64 0) := by go_simp
      refine bodyPost_ret (v := .agg #[.slice (some ⟨w.heap.size + 1, 0, none⟩) 4 4, .int .i64 0, .slice A2 64 k2, .int .i64 0, .bool false, .bool false, .int .i64 0, .slice A7 is.length k7, .slice none 0 0, .int .i64 0]) (by simp [results, Try.results9, go_sem, *]) rfl ⟨⟨some ⟨w.heap.size + 1, 0, none⟩, 4, [0, 0, 0, 0], 0, A2, k2, padM ws, 0, false, false, 0, A7, k7, is, none, 0, [], 0⟩, ?_, E.out.symm, ⟨?_, ?_, ?_, nilI _ _ _⟩, ?_, (by repeat (first | with_reducible assumption | with_reducible exact Ext.refl _ | with_reducible apply Ext.drewN | with_reducible apply Ext.drew | with_reducible apply Ext.alloc | with_reducible refine Ext.set ?_ (by first | (simp; done) | (simp; omega)) _ | with_reducible refine Ext.next ?_ (by with_reducible assumption)))⟩
      · simp only [Mc.val, Mc.cells, hpl]
        rfl
      · exact OI.base (own_upd' (HG1.out.ext hext) (S := fun b => b = w.heap.size) (by repeat (first | with_reducible assumption | with_reducible exact Upd.refl _ _ | with_reducible refine Upd.set ?_ (by first | (left; simp; done) | (left; omega)) _ | with_reducible refine Upd.next ?_ (Upd.of_ext (by with_reducible assumption)))) (fun b hb e => by have := atB_some hb; omega)) (by omega)
      · exact OI.base (own_upd' HO.out (S := fun b => b = w.heap.size) (by repeat (first | with_reducible assumption | with_reducible exact Upd.refl _ _ | with_reducible refine Upd.set ?_ (by first | (left; simp; done) | (left; omega)) _ | with_reducible refine Upd.next ?_ (Upd.of_ext (by with_reducible assumption)))) (fun b hb e => by have := (own_atB HO.out hb).1; omega)) (by omega)
      · exact OI.base (own_upd' HO7.out (S := fun b => b = w.heap.size) (by repeat (first | with_reducible assumption | with_reducible exact Upd.refl _ _ | with_reducible refine Upd.set ?_ (by first | (left; simp; done) | (left; omega)) _ | with_reducible refine Upd.next ?_ (Upd.of_ext (by with_reducible assumption)))) (fun b hb e => by have := (own_atB HO7.out hb).1; omega)) (by omega)
      · intro b
        refine ⟨fun h0 h2 => ?_, fun h0 h7 => ?_, fun h2 h7 => ?_, not_atB b⟩
        · have := atB_some h0; have := (own_atB HO.out h2).1; omega
        · have := atB_some h0; have := (own_atB HO1.out h7).1; omega
        · have := (own_atB HO.out h2).1; have := (own_atB HO1.out h7).2; omega
end Go.Proofs.Ytcjeeggffeoilaa
