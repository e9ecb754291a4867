/- Contracts of what copies and compares tables of atoms (the laws' own helpers). Conditions: at most 1048576 elements. -/
import Derived.Test.YtkdggfkigjpbfaaTB
namespace Go.Proofs.Ytkdggfkigjpbfaa
open Go Go.RowKit
set_option linter.unusedVariables false
set_option linter.unusedSimpArgs false

theorem info_atom : (Try.prog.info? 46).map (fun i => (i.zero, i.size, i.bytes)) = some (some (.agg #[.int .i64 0, .int .i64 0, .slice none 0 0, .slice none 0 0]), 4, 64) := by kernel_rfl
def Tn.val (t : Tn) : Value := .agg #[.int .i64 t.kind, .int .i64 t.n, .slice t.A1 t.xs.length t.k1, .slice t.A2 t.ys.length t.k2]
/-- A new atom of the same content. -/
def RetTn (TM TI : TypeId) (w : World) (d : Int × Int × List (Int × List Int) × List (Int × List Int)) (e : Ending) (w' : World) : Prop := ∃ t : Tn, e = .returned t.val ∧ t.dat = d ∧ OPs TM TI w' w.heap.size [t] ∧ Ext w w'
theorem OPs.one {TM TI : TypeId} {w : World} {lo : Nat} {t : Tn} (h1 : OM TM TI w lo t.A1 t.k1 t.xs) (h2 : OM TM TI w lo t.A2 t.k2 t.ys) (hd : ∀ b, foot t.A1 t.xs b → ¬ foot t.A2 t.ys b) : OPs TM TI w lo [t] :=
  ⟨fun x hx => by obtain rfl := List.mem_singleton.1 hx; exact ⟨h1, h2⟩, fun x hx => by obtain rfl := List.mem_singleton.1 hx; exact hd, List.pairwise_singleton _ _⟩

set_option maxHeartbeats 1000000 in
theorem toAtom (t : Tn) (w : World) (h1 : AM w t.A1 t.xs) (h2 : AM w t.A2 t.ys) (n1 : totM t.xs ≤ 1048576) (n2 : totM t.ys ≤ 1048576) :
    Calls Try.prog 39 #[t.val] w (RetTn 72 3 w t.dat) := by
  obtain ⟨kd, kn, A1, k1, xs, A2, k2, ys⟩ := t
  simp only at h1 h2 n1 n2
  obtain ⟨m1, x1⟩ := tot_one n1
  obtain ⟨m2, x2⟩ := tot_one n2
  unfold Tn.val
  simp only
  go_enter Try.func39, Try.ntmps39
  go_wp2_with fail
  refine (toPoly _ _ _ _ (h1.ext (by repeat (first | with_reducible assumption | with_reducible exact Ext.refl _ | with_reducible apply Ext.drewN | with_reducible apply Ext.drew | with_reducible apply Ext.alloc | with_reducible refine Ext.set ?_ (by first | (simp; done) | (simp; omega)) _ | with_reducible refine Ext.next ?_ (by with_reducible assumption)))) m1 x1).mono ?_
  rintro e w1 ⟨B1, j1, ms1, rfl, hd1, o1, hw1⟩
  obtain ⟨hc1, hf1⟩ := bcell_ hw1
  have hz1 : w.heap.size + 1 + 1 < w1.heap.size := by have := hw1.size; simp at this; omega
  have hy1 : w.heap.size + 1 < w1.heap.size := by omega
  have hx1 : w.heap.size < w1.heap.size := by omega
  have HD1 := hid hd1
  have HO1 := hid o1
  clear hd1 o1
  go_wp2_with fail
  refine (toPoly _ _ _ _ (h2.ext (by repeat (first | with_reducible assumption | with_reducible exact Ext.refl _ | with_reducible apply Ext.drewN | with_reducible apply Ext.drew | with_reducible apply Ext.alloc | with_reducible refine Ext.set ?_ (by first | (simp; done) | (simp; omega)) _ | with_reducible refine Ext.next ?_ (by with_reducible assumption)))) m2 x2).mono ?_
  rintro e w2 ⟨B2, j2, ms2, rfl, hd2, o2, hw2⟩
  obtain ⟨hc2, hf2⟩ := bcell_ hw2
  have hz2 : w.heap.size + 1 + 1 < w2.heap.size := by have := hw2.size; simp at this; omega
  have hy2 : w.heap.size + 1 < w2.heap.size := by omega
  have hx2 : w.heap.size < w2.heap.size := by omega
  have HD2 := hid hd2
  have HO2 := hid o2
  have HR1 : Hid (∀ b, (b = w.heap.size + 1 ∨ b = w.heap.size + 1 + 1) → b < w.heap.size + 1 + 1 + 1) := hid fun b hb => by omega
  have HR2 : Hid (∀ b, (b = w.heap.size + 1 ∨ b = w.heap.size + 1 + 1) → b < w1.heap.size) := hid fun b hb => by omega
  clear hd2 o2
  go_wp2
  refine bodyPost_ret (v := .agg #[.int .i64 kd, .int .i64 kn, .slice B1 ms1.length j1, .slice B2 ms2.length j2]) (by simp [results, Try.results39, go_sem, *]) rfl ⟨⟨kd, kn, B1, j1, ms1, B2, j2, ms2⟩, rfl, by unfold Tn.dat; simp only [HD1.out, HD2.out], OPs.one ?_ ?_ ?_, (by repeat (first | with_reducible assumption | with_reducible exact Ext.refl _ | with_reducible apply Ext.drewN | with_reducible apply Ext.drew | with_reducible apply Ext.alloc | with_reducible refine Ext.set ?_ (by first | (simp; done) | (simp; omega)) _ | with_reducible refine Ext.next ?_ (by with_reducible assumption)))⟩
  · refine (OM.upd (S := fun b => b = w.heap.size + 1 ∨ b = w.heap.size + 1 + 1) HO1.out (by repeat (first | with_reducible assumption | with_reducible exact Upd.refl _ _ | with_reducible refine Upd.set ?_ (by first | (left; simp; done) | (left; omega)) _ | with_reducible refine Upd.next ?_ (Upd.of_ext (by with_reducible assumption)))) (fun b hb e => ?_)).base (by simp; omega)
    have := (HO1.out.foot_ hb).1
    have := HR1.out b e
    simp at *
    omega
  · refine (OM.upd (S := fun b => b = w.heap.size + 1 ∨ b = w.heap.size + 1 + 1) HO2.out (by repeat (first | with_reducible assumption | with_reducible exact Upd.refl _ _ | with_reducible refine Upd.set ?_ (by first | (left; simp; done) | (left; omega)) _ | with_reducible refine Upd.next ?_ (Upd.of_ext (by with_reducible assumption)))) (fun b hb e => ?_)).base (by simp; omega)
    have := (HO2.out.foot_ hb).1
    have := HR2.out b e
    simp at *
    omega
  · intro b hb hb'
    have := (HO1.out.foot_ hb).2
    have := (HO2.out.foot_ hb').1
    simp at *
    omega

/-- New atoms of the same content. -/
def RetT (T TM TI : TypeId) (w : World) (d : List (Int × Int × List (Int × List Int) × List (Int × List Int))) (v : Option Addr → Nat → Nat → Value) (e : Ending) (w' : World) : Prop :=
  ∃ A k ts, e = .returned (v A ts.length k) ∧ ts.map Tn.dat = d ∧ OT T TM TI w' w.heap.size A k ts ∧ Ext w w'

set_option maxHeartbeats 1000000 in
theorem toAtomS (A : Option Addr) (k : Nat) (ts : List Tn) (w : World) (h : AT w A ts) (hn : ts.length ≤ 1048576) (hx : ∀ t ∈ ts, totM t.xs ≤ 1048576 ∧ totM t.ys ≤ 1048576) :
    Calls Try.prog 20 #[.slice A ts.length k] w (RetT 46 72 3 w (ts.map Tn.dat) (fun A n k => .slice A n k)) := by
  have hmk := run_make_rowN (P := Try.prog) 27 46 (.agg #[.int .i64 0, .int .i64 0, .slice none 0 0, .slice none 0 0]) 4 64 Try.underlying27 info_atom .i64 .i64 ts.length (by omega) (by omega)
  go_enter Try.func20, Try.ntmps20
  go_wp2
  go_loopw [4] (fun i wr => ∃ ts' : List Tn, i = .int .i64 ts'.length ∧ BltT 46 72 3 wr w.heap.size w.heap.size ts.length (ts.map Tn.dat) ts' ∧ Ext w wr) (fun i _ => ts.length - (intOf i).toNat)
  case atStart => exact ⟨[], rfl, BltT.start (Nat.le_refl _), (by repeat (first | with_reducible assumption | with_reducible exact Ext.refl _ | with_reducible apply Ext.drewN | with_reducible apply Ext.drew | with_reducible apply Ext.alloc | with_reducible refine Ext.set ?_ (by first | (simp; done) | (simp; omega)) _ | with_reducible refine Ext.next ?_ (by with_reducible assumption)))⟩
  case round =>
    obtain ⟨ts', rfl, hB, hext⟩ := hrel
    have hj := hB.2.1
    by_cases hlt : ts'.length < ts.length
    · obtain ⟨b, o, m, rfl, hb, hm, hc0, hc1, hc2, hc3, hI1, hI2⟩ := (h.ext hext).at_ hlt
      have HM := hid (show (ts.map Tn.dat)[ts'.length]? = some m.dat by rw [List.getElem?_map, hm]; rfl)
      obtain ⟨hsz1, hsz2⟩ := hx m (List.mem_of_getElem? hm)
      clear hm h
      go_wp2_with fail
      refine (toAtom m _ hI1 hI2 hsz1 hsz2).mono ?_
      rintro e w1 ⟨m', rfl, hd', ho, hw1⟩
      have HS := hid (hB.step (by decide) (by decide) hw1 (m := m') (by rw [hd']; exact HM.out) hlt ho)
      have hB1 := hB.ext hw1
      obtain ⟨v0, c0⟩ := hB1.cell (i := ts'.length * 4) (by omega)
      obtain ⟨v1, c1⟩ := hB1.cell (i := ts'.length * 4 + 1) (by omega)
      obtain ⟨v2, c2⟩ := hB1.cell (i := ts'.length * 4 + 2) (by omega)
      obtain ⟨v3, c3⟩ := hB1.cell (i := ts'.length * 4 + 3) (by omega)
      have f0 := hB1.frozen (ts'.length * 4)
      have f1 := hB1.frozen (ts'.length * 4 + 1)
      have f2 := hB1.frozen (ts'.length * 4 + 2)
      have f3 := hB1.frozen (ts'.length * 4 + 3)
      unfold Tn.val
      clear hB1 hB ho hd'
      go_wp2
      go_roundw
      case rel => exact ⟨_, by simp, HS.out, (by repeat (first | with_reducible assumption | with_reducible exact Ext.refl _ | with_reducible apply Ext.drewN | with_reducible apply Ext.drew | with_reducible apply Ext.alloc | with_reducible refine Ext.set ?_ (by first | (simp; done) | (simp; omega)) _ | with_reducible refine Ext.next ?_ (by with_reducible assumption)))⟩
      case measure => simp [intOf]; omega
    · go_wp2
      go_ret
      obtain ⟨h1, h2⟩ := hB.done (by omega) (by simp) (by unfold maxLen; omega)
      have e : ts'.length = ts.length := by omega
      exact ⟨some ⟨w.heap.size, 0, none⟩, ts.length, ts', by rw [e]; rfl, h1, h2, hext⟩

theorem toTab (A : Option Addr) (k : Nat) (ts : List Tn) (w : World) (h : AT w A ts) (ht : totT ts ≤ 1048576) :
    Calls Try.prog 7 #[.agg #[.slice A ts.length k]] w (RetT 46 72 3 w (ts.map Tn.dat) (fun A n k => .agg #[.slice A n k])) := by
  obtain ⟨hn, hx⟩ := totT_one ht
  go_enter Try.func7, Try.ntmps7
  go_wp2_with fail
  refine (toAtomS _ _ _ _ (h.ext (by repeat (first | with_reducible assumption | with_reducible exact Ext.refl _ | with_reducible apply Ext.drewN | with_reducible apply Ext.drew | with_reducible apply Ext.alloc))) hn hx).mono ?_
  rintro e w1 ⟨A', k', ts', rfl, hd, ho, hw1⟩
  have c0 : w1.cell? ⟨w.heap.size + 1 + 1, 0, none⟩ = some (.slice none 0 0) := keep hw1 (by go_simp)
  have d0 : w1.cell? ⟨w.heap.size + 1, 0, none⟩ = some (.slice none 0 0) := keep hw1 (by go_simp)
  have f0 : w1.frozen? ⟨w.heap.size + 1 + 1, 0, none⟩ = false := (hw1.frozen (by simp)).trans (by go_simp)
  have g0 : w1.frozen? ⟨w.heap.size + 1, 0, none⟩ = false := (hw1.frozen (by simp)).trans (by go_simp)
  have HD := hid hd
  clear hd
  go_wp2
  refine bodyPost_ret (v := .agg #[.slice A' ts'.length k']) (by simp [results, Try.results7, go_sem, c0, d0]) rfl ⟨A', k', ts', rfl, HD.out, ?_, (by repeat (first | with_reducible assumption | with_reducible exact Ext.refl _ | with_reducible apply Ext.drewN | with_reducible apply Ext.drew | with_reducible apply Ext.alloc | with_reducible refine Ext.set ?_ (by first | (simp; done) | (simp; omega)) _ | with_reducible refine Ext.next ?_ (by with_reducible assumption)))⟩
  exact ((ho.set (by simp) _).set (by simp) _).base (by simp; omega)

theorem eqAtom (t t' : Tn) (w : World) (h1 : RM 72 3 w t.A1 t.xs) (h2 : RM 72 3 w t.A2 t.ys) (h1' : RM 72 3 w t'.A1 t'.xs) (h2' : RM 72 3 w t'.A2 t'.ys) (hd : t.dat = t'.dat) (s1 : SzM t.xs) (s2 : SzM t.ys) :
    Calls Try.prog 48 #[t.val, t'.val] w fun e w' => e = .returned (.bool true) ∧ Ext w w' := by
  obtain ⟨kd, kn, A1, k1, xs, A2, k2, ys⟩ := t
  obtain ⟨kd', kn', A1', k1', xs', A2', k2', ys'⟩ := t'
  unfold Tn.dat at hd
  simp only [Prod.mk.injEq] at hd h1 h2 h1' h2' s1 s2
  obtain ⟨rfl, rfl, d1, d2⟩ := hd
  have D1 := hid d1
  have D2 := hid d2
  clear d1 d2
  unfold Tn.val
  simp only
  go_enter Try.func48, Try.ntmps48
  go_wp2_with fail
  refine (eqPoly _ _ _ _ _ _ xs xs' _ (h1.ext (by repeat (first | with_reducible assumption | with_reducible exact Ext.refl _ | with_reducible apply Ext.drewN | with_reducible apply Ext.drew | with_reducible apply Ext.alloc | with_reducible refine Ext.set ?_ (by first | (simp; done) | (simp; omega)) _ | with_reducible refine Ext.next ?_ (by with_reducible assumption)))) (h1'.ext (by repeat (first | with_reducible assumption | with_reducible exact Ext.refl _ | with_reducible apply Ext.drewN | with_reducible apply Ext.drew | with_reducible apply Ext.alloc | with_reducible refine Ext.set ?_ (by first | (simp; done) | (simp; omega)) _ | with_reducible refine Ext.next ?_ (by with_reducible assumption)))) D1.out rfl rfl s1).mono ?_
  rintro e w1 ⟨rfl, hw1⟩
  obtain ⟨hc1, hf1⟩ := bcell_ hw1
  have hz1 : w.heap.size + 1 < w1.heap.size := by have := hw1.size; simp at this; omega
  have hx1 : w.heap.size < w1.heap.size := by omega
  go_wp2_with fail
  refine (eqPoly _ _ _ _ _ _ ys ys' _ (h2.ext (by repeat (first | with_reducible assumption | with_reducible exact Ext.refl _ | with_reducible apply Ext.drewN | with_reducible apply Ext.drew | with_reducible apply Ext.alloc | with_reducible refine Ext.set ?_ (by first | (simp; done) | (simp; omega)) _ | with_reducible refine Ext.next ?_ (by with_reducible assumption)))) (h2'.ext (by repeat (first | with_reducible assumption | with_reducible exact Ext.refl _ | with_reducible apply Ext.drewN | with_reducible apply Ext.drew | with_reducible apply Ext.alloc | with_reducible refine Ext.set ?_ (by first | (simp; done) | (simp; omega)) _ | with_reducible refine Ext.next ?_ (by with_reducible assumption)))) D2.out rfl rfl s2).mono ?_
  rintro e w2 ⟨rfl, hw2⟩
  go_wp2
  go_ret
  exact ⟨rfl, (by repeat (first | with_reducible assumption | with_reducible exact Ext.refl _ | with_reducible apply Ext.drewN | with_reducible apply Ext.drew | with_reducible apply Ext.alloc | with_reducible refine Ext.set ?_ (by first | (simp; done) | (simp; omega)) _ | with_reducible refine Ext.next ?_ (by with_reducible assumption)))⟩
end Go.Proofs.Ytkdggfkigjpbfaa
