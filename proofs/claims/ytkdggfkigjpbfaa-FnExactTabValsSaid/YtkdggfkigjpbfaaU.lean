/- Contracts of what copies lists of ints and sums (the laws' own helpers): the copy lies in new memory. Conditions: at most 1048576 elements. -/
import Derived.Test.YtkdggfkigjpbfaaT
namespace Go.Proofs.Ytkdggfkigjpbfaa
open Go Go.RowKit
set_option linter.unusedVariables false
set_option linter.unusedSimpArgs false

theorem info_int : (Try.prog.info? 3).map (fun i => (i.zero, i.size, i.bytes)) = some (some (.int .i64 0), 1, 8) := by kernel_rfl

theorem info_mono : (Try.prog.info? 72).map (fun i => (i.zero, i.size, i.bytes)) = some (some (.agg #[.int .i64 0, .slice none 0 0]), 2, 32) := by kernel_rfl

/-- A new slice of the ints xs. -/
def RetI (TI : TypeId) (w : World) (xs : List Int) (e : Ending) (w' : World) : Prop := ∃ A k, e = .returned (.slice A xs.length k) ∧ OI TI w' w.heap.size A k xs ∧ Ext w w'
def copyF (xs : List Int) (j t : Nat) : Value := .int .i64 (if t < j then xs.getD t 0 else 0)
theorem copyF_full (xs : List Int) : (List.range xs.length).map (copyF xs xs.length) = xs.map (Value.int .i64) := by
  apply List.ext_getElem?
  intro i
  by_cases hi : i < xs.length
  · rw [List.getElem?_map, List.getElem?_range hi, List.getElem?_map, List.getElem?_eq_getElem hi]
    simp [copyF, hi]
  · rw [List.getElem?_eq_none (by simp; omega), List.getElem?_eq_none (by simp; omega)]

theorem toIntS (A : Option Addr) (k : Nat) (xs : List Int) (w : World) (h : AI w A xs) (hn : xs.length ≤ 1048576) :
    Calls Try.prog 11 #[.slice A xs.length k] w (RetI 3 w xs) := by
  have hmk := run_make_row' (P := Try.prog) 33 3 (.int .i64 0) 8 Try.underlying33 info_int rfl .i64 .i64 xs.length (by omega) (by omega)
  go_enter Try.func11, Try.ntmps11
  go_wp2
  go_loopw [4] (fun i wr => ∃ j : Nat, j ≤ xs.length ∧ i = .int .i64 j ∧ wr.rowIs w.heap.size 3 xs.length (copyF xs j) ∧ Ext w wr) (fun i _ => xs.length - (intOf i).toNat)
  case atStart => exact ⟨0, Nat.zero_le _, rfl, (World.rowIs_made w (.int .i64 0) xs.length _).congr fun i _ => by simp [copyF], (by repeat (first | with_reducible assumption | with_reducible exact Ext.refl _ | with_reducible apply Ext.drewN | with_reducible apply Ext.drew | with_reducible apply Ext.alloc))⟩
  case round =>
    obtain ⟨j, hj, rfl, hrow, hext⟩ := hrel
    by_cases hlt : j < xs.length
    · obtain ⟨b, o, x, rfl, hb, hx, hcell⟩ := (h.ext hext).at_ hlt
      have HX := hid hx
      have hc := hrow.cell hlt
      have hf := hrow.frozen j
      have HR := hid hrow
      clear hx h hrow
      go_wp2
      go_roundw
      case rel =>
        refine ⟨j + 1, by omega, by go_num, (HR.out.set j (.int .i64 x)).congr fun i _ => ?_, hext.set (by simp) _⟩
        by_cases e : i = j
        · subst e
          have := HX.out
          simp [copyF, this]
        · rw [if_neg e]
          by_cases e2 : i < j
          · simp [copyF, e2, show i < j + 1 from by omega]
          · simp [copyF, e2, show ¬ i < j + 1 from by omega]
      case measure => simp [intOf]; omega
    · have HR := hid hrow
      clear hrow
      go_wp2
      go_ret
      obtain rfl : j = xs.length := by omega
      have ho := own_of_row (lo := w.heap.size) HR.out (Nat.le_refl _) (by unfold maxLen; omega)
      rw [copyF_full] at ho
      exact ⟨_, _, rfl, ho, hext⟩

/-- A new part of the same content. -/
def RetMn (TI : TypeId) (w : World) (c : Int) (xs : List Int) (e : Ending) (w' : World) : Prop := ∃ A k, e = .returned (.agg #[.int .i64 c, .slice A xs.length k]) ∧ OI TI w' w.heap.size A k xs ∧ Ext w w'

theorem toMono (A : Option Addr) (k : Nat) (c : Int) (xs : List Int) (w : World) (h : AI w A xs) (hn : xs.length ≤ 1048576) :
    Calls Try.prog 77 #[.agg #[.int .i64 c, .slice A xs.length k]] w (RetMn 3 w c xs) := by
  go_enter Try.func77, Try.ntmps77
  go_wp2_with fail
  refine (toIntS _ _ _ _ (h.ext (by repeat (first | with_reducible assumption | with_reducible exact Ext.refl _ | with_reducible apply Ext.drewN | with_reducible apply Ext.drew | with_reducible apply Ext.alloc))) hn).mono ?_
  rintro e w1 ⟨A', k', rfl, ho, hw1⟩
  have c0 : w1.cell? ⟨w.heap.size + 1 + 1, 0, none⟩ = some (.int .i64 c) := keep hw1 (by go_simp)
  have c1 : w1.cell? ⟨w.heap.size + 1 + 1, 1, none⟩ = some (.slice none 0 0) := keep hw1 (by go_simp)
  have d0 : w1.cell? ⟨w.heap.size + 1, 0, none⟩ = some (.int .i64 0) := keep hw1 (by go_simp)
  have d1 : w1.cell? ⟨w.heap.size + 1, 1, none⟩ = some (.slice none 0 0) := keep hw1 (by go_simp)
  have f1 : w1.frozen? ⟨w.heap.size + 1 + 1, 1, none⟩ = false := (hw1.frozen (by simp)).trans (by go_simp)
  have g0 : w1.frozen? ⟨w.heap.size + 1, 0, none⟩ = false := (hw1.frozen (by simp)).trans (by go_simp)
  have g1 : w1.frozen? ⟨w.heap.size + 1, 1, none⟩ = false := (hw1.frozen (by simp)).trans (by go_simp)
  go_wp2
  refine bodyPost_ret (v := .agg #[.int .i64 c, .slice A' xs.length k']) (by simp [results, Try.results77, go_sem, c0, c1, d0, d1]) rfl ⟨A', k', rfl, ?_, (by repeat (first | with_reducible assumption | with_reducible exact Ext.refl _ | with_reducible apply Ext.drewN | with_reducible apply Ext.drew | with_reducible apply Ext.alloc | with_reducible refine Ext.set ?_ (by first | (simp; done) | (simp; omega)) _ | with_reducible refine Ext.next ?_ (by with_reducible assumption)))⟩
  exact (((ho.set (by simp) _).set (by simp) _).set (by simp) _).base (by simp; omega)

/-- New parts of the same content. -/
def RetM (TM TI : TypeId) (w : World) (d : List (Int × List Int)) (v : Option Addr → Nat → Nat → Value) (e : Ending) (w' : World) : Prop :=
  ∃ A k ms, e = .returned (v A ms.length k) ∧ ms.map Mn.dat = d ∧ OM TM TI w' w.heap.size A k ms ∧ Ext w w'

set_option maxHeartbeats 400000 in
theorem toMonoS (A : Option Addr) (k : Nat) (ms : List Mn) (w : World) (h : AM w A ms) (hn : ms.length ≤ 1048576) (hx : ∀ m ∈ ms, m.xs.length ≤ 1048576) :
    Calls Try.prog 67 #[.slice A ms.length k] w (RetM 72 3 w (ms.map Mn.dat) (fun A n k => .slice A n k)) := by
  have hmk := run_make_rowN (P := Try.prog) 42 72 (.agg #[.int .i64 0, .slice none 0 0]) 2 32 Try.underlying42 info_mono .i64 .i64 ms.length (by omega) (by omega)
  go_enter Try.func67, Try.ntmps67
  go_wp2
  go_loopw [4] (fun i wr => ∃ ms' : List Mn, i = .int .i64 ms'.length ∧ Blt 72 3 wr w.heap.size w.heap.size ms.length (ms.map Mn.dat) ms' ∧ Ext w wr) (fun i _ => ms.length - (intOf i).toNat)
  case atStart => exact ⟨[], rfl, Blt.start (Nat.le_refl _), (by repeat (first | with_reducible assumption | with_reducible exact Ext.refl _ | with_reducible apply Ext.drewN | with_reducible apply Ext.drew | with_reducible apply Ext.alloc | with_reducible refine Ext.set ?_ (by first | (simp; done) | (simp; omega)) _ | with_reducible refine Ext.next ?_ (by with_reducible assumption)))⟩
  case round =>
    obtain ⟨ms', rfl, hB, hext⟩ := hrel
    have hj := hB.2.1
    by_cases hlt : ms'.length < ms.length
    · obtain ⟨b, o, m, rfl, hb, hm, hc0, hc1, hI⟩ := (h.ext hext).at_ hlt
      have HM := hid (show (ms.map Mn.dat)[ms'.length]? = some m.dat by rw [List.getElem?_map, hm]; rfl)
      have hsz := hx m (List.mem_of_getElem? hm)
      clear hm h
      go_wp2_with fail
      refine (toMono _ _ _ _ _ hI hsz).mono ?_
      rintro e w1 ⟨A', k', rfl, ho, hw1⟩
      have HS := hid (hB.step (by decide) hw1 (m := ⟨m.c, A', k', m.xs⟩) HM.out hlt ho)
      have hB1 := hB.ext hw1
      obtain ⟨v0, c0⟩ := hB1.cell (i := ms'.length * 2) (by omega)
      obtain ⟨v1, c1⟩ := hB1.cell (i := ms'.length * 2 + 1) (by omega)
      have f0 := hB1.frozen (ms'.length * 2)
      have f1 := hB1.frozen (ms'.length * 2 + 1)
      clear hB1 hB ho
      go_wp2
      go_roundw
      case rel => exact ⟨_, by simp, HS.out, (by repeat (first | with_reducible assumption | with_reducible exact Ext.refl _ | with_reducible apply Ext.drewN | with_reducible apply Ext.drew | with_reducible apply Ext.alloc | with_reducible refine Ext.set ?_ (by first | (simp; done) | (simp; omega)) _ | with_reducible refine Ext.next ?_ (by with_reducible assumption)))⟩
      case measure => simp [intOf]; omega
    · go_wp2
      go_ret
      obtain ⟨h1, h2⟩ := hB.done (by omega) (by simp) (by unfold maxLen; omega)
      have e : ms'.length = ms.length := by omega
      exact ⟨some ⟨w.heap.size, 0, none⟩, ms.length, ms', by rw [e]; rfl, h1, h2, hext⟩

theorem toPoly (A : Option Addr) (k : Nat) (ms : List Mn) (w : World) (h : AM w A ms) (hn : ms.length ≤ 1048576) (hx : ∀ m ∈ ms, m.xs.length ≤ 1048576) :
    Calls Try.prog 57 #[.agg #[.slice A ms.length k]] w (RetM 72 3 w (ms.map Mn.dat) (fun A n k => .agg #[.slice A n k])) := by
  go_enter Try.func57, Try.ntmps57
  go_wp2_with fail
  refine (toMonoS _ _ _ _ (h.ext (by repeat (first | with_reducible assumption | with_reducible exact Ext.refl _ | with_reducible apply Ext.drewN | with_reducible apply Ext.drew | with_reducible apply Ext.alloc))) hn hx).mono ?_
  rintro e w1 ⟨A', k', ms', rfl, hd, ho, hw1⟩
  have c0 : w1.cell? ⟨w.heap.size + 1 + 1, 0, none⟩ = some (.slice none 0 0) := keep hw1 (by go_simp)
  have d0 : w1.cell? ⟨w.heap.size + 1, 0, none⟩ = some (.slice none 0 0) := keep hw1 (by go_simp)
  have f0 : w1.frozen? ⟨w.heap.size + 1 + 1, 0, none⟩ = false := (hw1.frozen (by simp)).trans (by go_simp)
  have g0 : w1.frozen? ⟨w.heap.size + 1, 0, none⟩ = false := (hw1.frozen (by simp)).trans (by go_simp)
  have HD := hid hd
  clear hd
  go_wp2
  refine bodyPost_ret (v := .agg #[.slice A' ms'.length k']) (by simp [results, Try.results57, go_sem, c0, d0]) rfl ⟨A', k', ms', rfl, HD.out, ?_, (by repeat (first | with_reducible assumption | with_reducible exact Ext.refl _ | with_reducible apply Ext.drewN | with_reducible apply Ext.drew | with_reducible apply Ext.alloc | with_reducible refine Ext.set ?_ (by first | (simp; done) | (simp; omega)) _ | with_reducible refine Ext.next ?_ (by with_reducible assumption)))⟩
  exact ((ho.set (by simp) _).set (by simp) _).base (by simp; omega)
end Go.Proofs.Ytkdggfkigjpbfaa
