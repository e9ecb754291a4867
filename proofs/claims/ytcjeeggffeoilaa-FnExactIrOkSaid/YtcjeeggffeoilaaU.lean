/- Contracts of what copies lists of ints and sums (the laws' own helpers): the copy lies in new memory. Conditions: at most 1048576 elements. -/
import Derived.Test.YtcjeeggffeoilaaT
namespace Go.Proofs.Ytcjeeggffeoilaa
open Go Go.RowKit
set_option linter.unusedVariables false
set_option linter.unusedSimpArgs false

theorem info_int : (Try.prog.info? 3).map (fun i => (i.zero, i.size, i.bytes)) = some (some (.int .i64 0), 1, 8) := by kernel_rfl



/-- A new slice of the ints xs. -/
def RetI (TI : TypeId) (w : World) (xs : List Int) (e : Ending) (w' : World) : Prop := ∃ A k, e = .returned (.slice A xs.length k) ∧ OI TI w' w.heap.size A k xs ∧ Ext w w'
def copyF (xs : List Int) (j t : Nat) : Value := .int .i64 (if t < j then xs.getD t 0 else 0)
theorem copyF_full (xs : List Int) : (List.range xs.length).map (copyF xs xs.length) = xs.map (Value.int .i64) := by
  apply List.ext_getElem?
  intro i
  by_cases hi : i < xs.length
  · rw [List.getElem?_map, List.getElem?_range hi, List.getElem?_map, List.getElem?_eq_getElem hi]
    simp [copyF, hi]
  · rw [List.getElem?_eq_none (by simp; omega), List.getElem?_eq_none (by simp; omega)]

theorem toIntS (A : Option Addr) (k : Nat) (xs : List Int) (w : World) (h : AI w A xs) (hn : xs.length ≤ 1048576) :
    Calls Try.prog 13 #[.slice A xs.length k] w (RetI 3 w xs) := by
  have hmk := run_make_row' (P := Try.prog) 23 3 (.int .i64 0) 8 Try.underlying23 info_int rfl .i64 .i64 xs.length (by omega) (by omega)
  go_enter Try.func13, Try.ntmps13
  go_wp2
  go_loopw [4] (fun i wr => ∃ j : Nat, j ≤ xs.length ∧ i = .int .i64 j ∧ wr.rowIs w.heap.size 3 xs.length (copyF xs j) ∧ Ext w wr) (fun i _ => xs.length - (intOf i).toNat)
  case atStart => exact ⟨0, Nat.zero_le _, rfl, (World.rowIs_made w (.int .i64 0) xs.length _).congr fun i _ => by simp [copyF], (by repeat (first | with_reducible assumption | with_reducible exact Ext.refl _ | with_reducible apply Ext.drewN | with_reducible apply Ext.drew | with_reducible apply Ext.alloc))⟩
  case round =>
    obtain ⟨j, hj, rfl, hrow, hext⟩ := hrel
    by_cases hlt : j < xs.length
    · obtain ⟨b, o, x, rfl, hb, hx, hcell⟩ := (h.ext hext).at_ hlt
      have HX := hid hx
      have hc := hrow.cell hlt
      have hf := hrow.frozen j
      have HR := hid hrow
      clear hx h hrow
      go_wp2
      go_roundw
      case rel =>
        refine ⟨j + 1, by omega, by go_num, (HR.out.set j (.int .i64 x)).congr fun i _ => ?_, hext.set (by simp) _⟩
        by_cases e : i = j
        · subst e
          have := HX.out
          simp [copyF, this]
        · rw [if_neg e]
          by_cases e2 : i < j
          · simp [copyF, e2, show i < j + 1 from by omega]
          · simp [copyF, e2, show ¬ i < j + 1 from by omega]
      case measure => simp [intOf]; omega
    · have HR := hid hrow
      clear hrow
      go_wp2
      go_ret
      obtain rfl : j = xs.length := by omega
      have ho := own_of_row (lo := w.heap.size) HR.out (Nat.le_refl _) (by unfold maxLen; omega)
      rw [copyF_full] at ho
      exact ⟨_, _, rfl, ho, hext⟩

/-- A new part of the same content. -/
def RetMn (TI : TypeId) (w : World) (c : Int) (xs : List Int) (e : Ending) (w' : World) : Prop := ∃ A k, e = .returned (.agg #[.int .i64 c, .slice A xs.length k]) ∧ OI TI w' w.heap.size A k xs ∧ Ext w w'



/-- New parts of the same content. -/
def RetM (TM TI : TypeId) (w : World) (d : List (Int × List Int)) (v : Option Addr → Nat → Nat → Value) (e : Ending) (w' : World) : Prop :=
  ∃ A k ms, e = .returned (v A ms.length k) ∧ ms.map Mn.dat = d ∧ OM TM TI w' w.heap.size A k ms ∧ Ext w w'



