/- Contracts of the laws' own comparisons, where both sides hold the same; of marking and of holding marks. Conditions: lengths that a machine can hold. -/
import Derived.Test.YtkdggfkigjpbfaaU
namespace Go.Proofs.Ytkdggfkigjpbfaa
open Go Go.RowKit
set_option linter.unusedVariables false
set_option linter.unusedSimpArgs false

theorem eqIntS (A A' : Option Addr) (k k' n : Nat) (xs : List Int) (w : World) (h : RI 3 w A xs) (h' : RI 3 w A' xs) (hl : xs.length = n) (hn : n < 4611686018427387904) :
    Calls Try.prog 13 #[.slice A n k, .slice A' n k'] w fun e w' => e = .returned (.bool true) ∧ Ext w w' := by
  subst hl
  go_enter Try.func13, Try.ntmps13
  go_wp2
  go_loopw [5] (fun i wr => ∃ j : Nat, j ≤ xs.length ∧ i = .int .i64 j ∧ Ext w wr) (fun i _ => xs.length - (intOf i).toNat)
  case atStart => exact ⟨0, Nat.zero_le _, rfl, Ext.refl _⟩
  case round =>
    obtain ⟨j, hj, rfl, hext⟩ := hrel
    by_cases hlt : j < xs.length
    · obtain ⟨b, o, x, rfl, hb, hx, hcell⟩ := (h.ext hext).at_ hlt
      obtain ⟨b', o', y, rfl, hb', hy, hcell'⟩ := (h'.ext hext).at_ hlt
      rw [hx] at hy
      injection hy with hy
      subst hy
      clear hx h h'
      go_wp2
      refine wp_region_over (by kernel_rfl) (by kernel_rfl) ?_
      repeat (go_big_quiet_step (fail))
      refine wpQuiet_nil ?_
      rintro _ ⟨⟨wq, hwq⟩, rfl⟩
      go_wp2
      go_roundw
      case rel => exact ⟨j + 1, by omega, by go_num, (by repeat (first | with_reducible assumption | with_reducible exact Ext.refl _ | with_reducible apply Ext.drewN | with_reducible apply Ext.drew | with_reducible apply Ext.alloc | with_reducible refine Ext.set ?_ (by first | (simp; done) | (simp; omega)) _ | with_reducible refine Ext.next ?_ (by with_reducible assumption)))⟩
      case measure => simp [intOf]; omega
    · go_wp2
      go_ret
      exact ⟨rfl, hext⟩

theorem eqMono (A A' : Option Addr) (k k' n : Nat) (c : Int) (xs : List Int) (w : World) (h : RI 3 w A xs) (h' : RI 3 w A' xs) (hl : xs.length = n) (hn : n < 4611686018427387904) :
    Calls Try.prog 79 #[.agg #[.int .i64 c, .slice A n k], .agg #[.int .i64 c, .slice A' n k']] w fun e w' => e = .returned (.bool true) ∧ Ext w w' := by
  go_enter Try.func79, Try.ntmps79
  go_wp2_with fail
  refine (eqIntS _ _ _ _ _ xs _ (h.ext (by repeat (first | with_reducible assumption | with_reducible exact Ext.refl _ | with_reducible apply Ext.drewN | with_reducible apply Ext.drew | with_reducible apply Ext.alloc | with_reducible refine Ext.set ?_ (by first | (simp; done) | (simp; omega)) _ | with_reducible refine Ext.next ?_ (by with_reducible assumption)))) (h'.ext (by repeat (first | with_reducible assumption | with_reducible exact Ext.refl _ | with_reducible apply Ext.drewN | with_reducible apply Ext.drew | with_reducible apply Ext.alloc | with_reducible refine Ext.set ?_ (by first | (simp; done) | (simp; omega)) _ | with_reducible refine Ext.next ?_ (by with_reducible assumption)))) hl hn).mono ?_
  rintro e w1 ⟨rfl, hw1⟩
  go_wp2
  go_ret
  exact ⟨rfl, (by repeat (first | with_reducible assumption | with_reducible exact Ext.refl _ | with_reducible apply Ext.drewN | with_reducible apply Ext.drew | with_reducible apply Ext.alloc | with_reducible refine Ext.set ?_ (by first | (simp; done) | (simp; omega)) _ | with_reducible refine Ext.next ?_ (by with_reducible assumption)))⟩

theorem eqMonoS (A A' : Option Addr) (k k' n : Nat) (ms ms' : List Mn) (w : World) (h : RM 72 3 w A ms) (h' : RM 72 3 w A' ms') (hd : ms.map Mn.dat = ms'.map Mn.dat) (hl : ms.length = n) (hs : SzM ms) :
    Calls Try.prog 75 #[.slice A n k, .slice A' n k'] w fun e w' => e = .returned (.bool true) ∧ Ext w w' := by
  subst hl
  have hn := hs.1
  have HL := hid (show ms.length = ms'.length by simpa using congrArg List.length hd)
  have HD := hid hd
  clear hd
  go_enter Try.func75, Try.ntmps75
  go_wp2
  go_loopw [5] (fun i wr => ∃ j : Nat, j ≤ ms.length ∧ i = .int .i64 j ∧ Ext w wr) (fun i _ => ms.length - (intOf i).toNat)
  case atStart => exact ⟨0, Nat.zero_le _, rfl, Ext.refl _⟩
  case round =>
    obtain ⟨j, hj, rfl, hext⟩ := hrel
    by_cases hlt : j < ms.length
    · obtain ⟨b, o, m, rfl, hb, hm, hc0, hc1, hI⟩ := (h.ext hext).at_ hlt
      obtain ⟨b', o', m', rfl, hb', hm', hd0, hd1, hI'⟩ := (h'.ext hext).at_ (i := j) (by rw [← HL.out]; exact hlt)
      have hsz := hs.at_ hm
      have e : m.dat = m'.dat := by
        have := congrArg (fun l : List (Int × List Int) => l[j]?) HD.out
        simp only [List.getElem?_map, hm, hm', Option.map_some] at this
        injection this
      obtain ⟨c', A2, k2, xs'⟩ := m'
      injection e with e1 e2
      simp only at e1 e2 hI' hd0 hd1
      subst e1 e2
      clear hm hm' h h'
      go_wp2
      refine wp_region_over (by kernel_rfl) (by kernel_rfl) ?_
      repeat (go_big_quiet_step ((go_at_call 79; exact calls_over (eqMono _ _ _ _ _ _ m.xs _ ((hI.ext (by repeat (first | with_reducible assumption | with_reducible exact Ext.refl _ | with_reducible apply Ext.drewN | with_reducible apply Ext.drew | with_reducible apply Ext.alloc | with_reducible refine Ext.set ?_ (by first | (simp; done) | (simp; omega)) _ | with_reducible refine Ext.next ?_ (by with_reducible assumption)))).ext (Over.ext _)) ((hI'.ext (by repeat (first | with_reducible assumption | with_reducible exact Ext.refl _ | with_reducible apply Ext.drewN | with_reducible apply Ext.drew | with_reducible apply Ext.alloc | with_reducible refine Ext.set ?_ (by first | (simp; done) | (simp; omega)) _ | with_reducible refine Ext.next ?_ (by with_reducible assumption)))).ext (Over.ext _)) rfl hsz))))
      refine wpQuiet_nil ?_
      rintro _ ⟨⟨wq, hwq⟩, rfl⟩
      go_wp2
      go_roundw
      case rel => exact ⟨j + 1, by omega, by go_num, (by repeat (first | with_reducible assumption | with_reducible exact Ext.refl _ | with_reducible apply Ext.drewN | with_reducible apply Ext.drew | with_reducible apply Ext.alloc | with_reducible refine Ext.set ?_ (by first | (simp; done) | (simp; omega)) _ | with_reducible refine Ext.next ?_ (by with_reducible assumption)))⟩
      case measure => simp [intOf]; omega
    · go_wp2
      go_ret
      exact ⟨rfl, hext⟩

theorem eqPoly (A A' : Option Addr) (k k' n n' : Nat) (ms ms' : List Mn) (w : World) (h : RM 72 3 w A ms) (h' : RM 72 3 w A' ms') (hd : ms.map Mn.dat = ms'.map Mn.dat) (hl : ms.length = n) (hl' : ms'.length = n') (hs : SzM ms) :
    Calls Try.prog 65 #[.agg #[.slice A n k], .agg #[.slice A' n' k']] w fun e w' => e = .returned (.bool true) ∧ Ext w w' := by
  have HL := show ms.length = ms'.length by simpa using congrArg List.length hd
  obtain rfl : n = n' := by omega
  have HD := hid hd
  have HL2 := hid hl
  clear hd hl hl' HL
  go_enter Try.func65, Try.ntmps65
  go_wp2_with fail
  refine (eqMonoS _ _ _ _ _ ms ms' _ (h.ext (by repeat (first | with_reducible assumption | with_reducible exact Ext.refl _ | with_reducible apply Ext.drewN | with_reducible apply Ext.drew | with_reducible apply Ext.alloc | with_reducible refine Ext.set ?_ (by first | (simp; done) | (simp; omega)) _ | with_reducible refine Ext.next ?_ (by with_reducible assumption)))) (h'.ext (by repeat (first | with_reducible assumption | with_reducible exact Ext.refl _ | with_reducible apply Ext.drewN | with_reducible apply Ext.drew | with_reducible apply Ext.alloc | with_reducible refine Ext.set ?_ (by first | (simp; done) | (simp; omega)) _ | with_reducible refine Ext.next ?_ (by with_reducible assumption)))) HD.out HL2.out hs).mono ?_
  rintro e w1 ⟨rfl, hw1⟩
  go_wp2
  go_ret
  exact ⟨rfl, (by repeat (first | with_reducible assumption | with_reducible exact Ext.refl _ | with_reducible apply Ext.drewN | with_reducible apply Ext.drew | with_reducible apply Ext.alloc | with_reducible refine Ext.set ?_ (by first | (simp; done) | (simp; omega)) _ | with_reducible refine Ext.next ?_ (by with_reducible assumption)))⟩
end Go.Proofs.Ytkdggfkigjpbfaa
