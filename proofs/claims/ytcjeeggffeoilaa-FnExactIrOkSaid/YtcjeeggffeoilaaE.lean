/- Contracts of the laws' own comparisons, where both sides hold the same; of marking and of holding marks. Conditions: lengths that a machine can hold. -/
import Derived.Test.YtcjeeggffeoilaaU
namespace Go.Proofs.Ytcjeeggffeoilaa
open Go Go.RowKit
set_option linter.unusedVariables false
set_option linter.unusedSimpArgs false

theorem eqIntS (A A' : Option Addr) (k k' n : Nat) (xs : List Int) (w : World) (h : RI 3 w A xs) (h' : RI 3 w A' xs) (hl : xs.length = n) (hn : n < 4611686018427387904) :
    Calls Try.prog 15 #[.slice A n k, .slice A' n k'] w fun e w' => e = .returned (.bool true) ∧ Ext w w' := by
  subst hl
  go_enter Try.func15, Try.ntmps15
  go_wp2
  go_loopw [5] (fun i wr => ∃ j : Nat, j ≤ xs.length ∧ i = .int .i64 j ∧ Ext w wr) (fun i _ => xs.length - (intOf i).toNat)
  case atStart => exact ⟨0, Nat.zero_le _, rfl, Ext.refl _⟩
  case round =>
    obtain ⟨j, hj, rfl, hext⟩ := hrel
    by_cases hlt : j < xs.length
    · obtain ⟨b, o, x, rfl, hb, hx, hcell⟩ := (h.ext hext).at_ hlt
      obtain ⟨b', o', y, rfl, hb', hy, hcell'⟩ := (h'.ext hext).at_ hlt
      rw [hx] at hy
      injection hy with hy
      subst hy
      clear hx h h'
      go_wp2
      refine wp_region_over (by kernel_rfl) (by kernel_rfl) ?_
      repeat (go_big_quiet_step (fail))
      refine wpQuiet_nil ?_
      rintro _ ⟨⟨wq, hwq⟩, rfl⟩
      go_wp2
      go_roundw
      case rel => exact ⟨j + 1, by omega, by go_num, (by repeat (first | with_reducible assumption | with_reducible exact Ext.refl _ | with_reducible apply Ext.drewN | with_reducible apply Ext.drew | with_reducible apply Ext.alloc | with_reducible refine Ext.set ?_ (by first | (simp; done) | (simp; omega)) _ | with_reducible refine Ext.next ?_ (by with_reducible assumption)))⟩
      case measure => simp [intOf]; omega
    · go_wp2
      go_ret
      exact ⟨rfl, hext⟩





