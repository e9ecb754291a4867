/- Contracts of the laws' own comparisons of lists of ints and of sums: true just of what is the same. Conditions: lengths that a machine can hold. -/
import Derived.Test.YtcjeeggffeoilaaE
namespace Go.Proofs.Ytcjeeggffeoilaa
open Go Go.RowKit
set_option linter.unusedVariables false
set_option linter.unusedSimpArgs false

theorem laInts_ (A A' : Option Addr) (k k' : Nat) (xs ys : List Int) (w : World) (h : RI 3 w A xs) (h' : RI 3 w A' ys) (hn : xs.length < 4611686018427387904) (hn' : ys.length < 4611686018427387904) :
    Calls Try.prog 12 #[.slice A xs.length k, .slice A' ys.length k'] w fun e w' => e = .returned (.bool (decide (xs = ys))) ∧ Ext w w' := by
  by_cases hl : xs.length = ys.length
  · rw [← hl] at hn' ⊢
    have HL := hid hl
    clear hl
    go_enter Try.func12, Try.ntmps12
    go_wp2
    go_loopw [5] (fun i wr => ∃ j : Nat, j ≤ xs.length ∧ i = .int .i64 j ∧ (∀ t, t < j → xs[t]? = ys[t]?) ∧ Ext w wr) (fun i _ => xs.length - (intOf i).toNat)
    case atStart => exact ⟨0, Nat.zero_le _, rfl, fun t ht => absurd ht (by omega), Ext.refl _⟩
    case round =>
      obtain ⟨j, hj, rfl, hp, hext⟩ := hrel
      have HP := hid hp
      clear hp
      by_cases hlt : j < xs.length
      · obtain ⟨b, o, x, rfl, hb, hx, hcell⟩ := (h.ext hext).at_ hlt
        obtain ⟨b', o', y, rfl, hb', hy, hcell'⟩ := (h'.ext hext).at_ (i := j) (by rw [← HL.out]; exact hlt)
        have HX := hid hx
        have HY := hid hy
        clear hx hy h h'
        by_cases hxy : x = y
        · subst hxy
          go_wp2
          refine wp_region_over (by kernel_rfl) (by kernel_rfl) ?_
          repeat (go_big_quiet_step (fail))
          refine wpQuiet_nil ?_
          rintro _ ⟨⟨wq, hwq⟩, rfl⟩
          go_wp2
          go_roundw
          case rel =>
            refine ⟨j + 1, by omega, by go_num, fun t ht => ?_, (by repeat (first | with_reducible assumption | with_reducible exact Ext.refl _ | with_reducible apply Ext.drewN | with_reducible apply Ext.drew | with_reducible apply Ext.alloc | with_reducible refine Ext.set ?_ (by first | (simp; done) | (simp; omega)) _ | with_reducible refine Ext.next ?_ (by with_reducible assumption)))⟩
            rcases Nat.lt_or_ge t j with h1 | h1
            · exact HP.out t h1
            · obtain rfl : t = j := by omega
              rw [HX.out, HY.out]
          case measure => simp [intOf]; omega
        · have hE := hid (show decide (xs = ys) = false from decide_eq_false (by rintro rfl; have := HX.out.symm.trans HY.out; injection this with this; exact hxy this))
          go_wp2
          refine wp_region_over (by kernel_rfl) (by kernel_rfl) ?_
          repeat (go_big_quiet_step (fail))
          refine wpQuiet_nil ?_
          rintro _ ⟨⟨wq, hwq⟩, rfl⟩
          go_wp2
          go_ret
          exact ⟨ret_bool hE.out.symm, (by repeat (first | with_reducible assumption | with_reducible exact Ext.refl _ | with_reducible apply Ext.drewN | with_reducible apply Ext.drew | with_reducible apply Ext.alloc | with_reducible refine Ext.set ?_ (by first | (simp; done) | (simp; omega)) _ | with_reducible refine Ext.next ?_ (by with_reducible assumption)))⟩
      · have hE := hid (show decide (xs = ys) = true from decide_eq_true (List.ext_getElem? fun t => by
          rcases Nat.lt_or_ge t j with h1 | h1
          · exact HP.out t h1
          · rw [List.getElem?_eq_none (by omega), List.getElem?_eq_none (by have := HL.out; omega)]))
        go_wp2
        go_ret
        exact ⟨ret_bool hE.out.symm, hext⟩
  · have hl' : ((xs.length : Int) == (ys.length : Int)) = false := by rw [beq_eq_false_iff_ne]; omega
    have hE := hid (show decide (xs = ys) = false from decide_eq_false (by rintro rfl; exact hl rfl))
    clear hl
    go_enter Try.func12, Try.ntmps12
    go_wp2
    go_ret
    exact ⟨ret_bool hE.out.symm, Ext.refl _⟩
theorem laInts_v (A A' : Option Addr) (k k' : Nat) (xs ys : List Int) (w : World) (h : RI 3 w A xs) (h' : RI 3 w A' ys) (hn : xs.length < 4611686018427387904) (hn' : ys.length < 4611686018427387904) {v : Bool} (hv : decide (xs = ys) = v) :
    Calls Try.prog 12 #[.slice A xs.length k, .slice A' ys.length k'] w fun e w' => e = .returned (.bool v) ∧ Ext w w' := by
  subst hv
  exact laInts_ A A' k k' xs ys w h h' hn hn'

