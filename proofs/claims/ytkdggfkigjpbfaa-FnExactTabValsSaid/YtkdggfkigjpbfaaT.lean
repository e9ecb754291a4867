/- Contracts of what measures, copies and compares lists of ints and sums (the laws' own helpers). Conditions: lengths that a machine can hold. -/
import Derived.Test.YtkdggfkigjpbfaaC
import Derived.Test.YtkdggfkigjpbfaaM
namespace Go.Proofs.Ytkdggfkigjpbfaa
open Go Go.RowKit
set_option linter.unusedVariables false
set_option linter.unusedSimpArgs false

/-- What is left of a measure; -1, if nothing is. -/
def szF (left : Int) (n : Nat) : Int := if left < n then -1 else left - n
theorem szF_lt {left : Int} {n : Nat} (h : left < n) : szF left n = -1 := by rw [szF, if_pos h]
theorem szF_ge {left : Int} {n : Nat} (h : (n : Int) ≤ left) : szF left n = left - n := by rw [szF, if_neg (by omega)]

theorem szIntS (A : Option Addr) (k n : Nat) (left : Int) (w : World) (hn : n ≤ 9223372036854775807) (h0 : 0 ≤ left) (h1 : left ≤ 1048576) :
    Calls Try.prog 80 #[.slice A n k, .int .i64 left] w fun e w' => e = .returned (.int .i64 (szF left n)) ∧ Ext w w' := by
  by_cases h : left < n
  · go_enter Try.func80, Try.ntmps80
    go_wp2
    go_ret
    exact ⟨ret_int (szF_lt h).symm, (by repeat (first | with_reducible assumption | with_reducible exact Ext.refl _ | with_reducible apply Ext.drewN | with_reducible apply Ext.drew | with_reducible apply Ext.alloc))⟩
  · have h' : (n : Int) ≤ left := by omega
    clear h
    go_enter Try.func80, Try.ntmps80
    go_wp2
    go_ret
    exact ⟨ret_int (szF_ge h').symm, (by repeat (first | with_reducible assumption | with_reducible exact Ext.refl _ | with_reducible apply Ext.drewN | with_reducible apply Ext.drew | with_reducible apply Ext.alloc))⟩

theorem szMono (c : Int) (A : Option Addr) (k n : Nat) (left : Int) (w : World) (hn : n ≤ 9223372036854775807) (h0 : 0 ≤ left) (h1 : left ≤ 1048576) :
    Calls Try.prog 76 #[.agg #[.int .i64 c, .slice A n k], .int .i64 left] w fun e w' => e = .returned (.int .i64 (szF left n)) ∧ Ext w w' := by
  by_cases h : left < n
  · have e := hid (szF_lt h)
    have hb : szF left n < 0 := by rw [szF_lt h]; omega
    go_enter Try.func76, Try.ntmps76
    go_wp2_with fail
    refine (szIntS _ _ _ _ _ hn h0 h1).mono ?_
    rintro e w1 ⟨rfl, hw1⟩
    go_wp2
    go_ret
    exact ⟨ret_int e.out.symm, (Ext.next (by repeat (first | with_reducible assumption | with_reducible exact Ext.refl _ | with_reducible apply Ext.drewN | with_reducible apply Ext.drew | with_reducible apply Ext.alloc)) hw1)⟩
  · have hb : 0 ≤ szF left n := by rw [szF_ge (by omega)]; omega
    go_enter Try.func76, Try.ntmps76
    go_wp2_with fail
    refine (szIntS _ _ _ _ _ hn h0 h1).mono ?_
    rintro e w1 ⟨rfl, hw1⟩
    go_wp2
    go_ret
    exact ⟨rfl, (Ext.next (by repeat (first | with_reducible assumption | with_reducible exact Ext.refl _ | with_reducible apply Ext.drewN | with_reducible apply Ext.drew | with_reducible apply Ext.alloc)) hw1)⟩

theorem tot_take {ms : List Mn} {j : Nat} {m : Mn} (hm : ms[j]? = some m) : ((ms.take (j + 1)).map fun m => m.xs.length).sum = ((ms.take j).map fun m => m.xs.length).sum + m.xs.length := by
  obtain ⟨hj, he⟩ := List.getElem?_eq_some_iff.1 hm
  rw [List.take_succ_eq_append_getElem hj, he]
  simp
theorem tot_le (ms : List Mn) (j : Nat) : ((ms.take j).map fun m => m.xs.length).sum ≤ (ms.map fun m => m.xs.length).sum := by
  have := congrArg List.sum (List.take_append_drop j (ms.map fun m => m.xs.length))
  rw [List.sum_append] at this
  rw [List.map_take]
  omega

set_option maxHeartbeats 400000 in
theorem szMonoS (A : Option Addr) (k : Nat) (ms : List Mn) (left : Int) (w : World) (h : AM w A ms) (hs : SzA ms) (h0 : 0 ≤ left) (h1 : left ≤ 1048576) :
    Calls Try.prog 66 #[.slice A ms.length k, .int .i64 left] w fun e w' => e = .returned (.int .i64 (szF left (totM ms))) ∧ Ext w w' := by
  have hn := hs.1
  by_cases hl : left < ms.length
  · have e := hid (szF_lt (left := left) (n := totM ms) (by unfold totM; omega))
    go_enter Try.func66, Try.ntmps66
    go_wp2
    go_ret
    exact ⟨ret_int e.out.symm, (by repeat (first | with_reducible assumption | with_reducible exact Ext.refl _ | with_reducible apply Ext.drewN | with_reducible apply Ext.drew | with_reducible apply Ext.alloc))⟩
  · go_enter Try.func66, Try.ntmps66
    go_wp2
    go_loopw [1, 5] (fun v i wr => ∃ j : Nat, j ≤ ms.length ∧ i = .int .i64 j ∧ v = .int .i64 (left - ms.length - ((ms.take j).map fun m => m.xs.length).sum) ∧ 0 ≤ left - ms.length - ((ms.take j).map fun m => m.xs.length).sum ∧ Ext w wr) (fun _ i _ => ms.length - (intOf i).toNat)
    case atStart => exact ⟨0, Nat.zero_le _, rfl, by simp, by simp; omega, (by repeat (first | with_reducible assumption | with_reducible exact Ext.refl _ | with_reducible apply Ext.drewN | with_reducible apply Ext.drew | with_reducible apply Ext.alloc))⟩
    case round =>
      obtain ⟨j, hj, rfl, rfl, hp, hext⟩ := hrel
      by_cases hlt : j < ms.length
      · obtain ⟨b, o, m, rfl, hb, hm, hc0, hc1, hI⟩ := (h.ext hext).at_ hlt
        have HT := hid (tot_take hm)
        have HL := hid (tot_le ms (j + 1))
        have hsz := hs.at_ hm
        clear hm h
        generalize hS : ((ms.take j).map fun m => m.xs.length).sum = S at *
        clear hS
        go_wp2_with fail
        refine (szMono _ _ _ _ _ _ hsz hp (by omega)).mono ?_
        rintro e w1 ⟨rfl, hw1⟩
        by_cases hq : left - ms.length - (S : Int) < m.xs.length
        · have e1 := hid (szF_lt hq)
          have hb : szF (left - ms.length - (S : Int)) m.xs.length < 0 := by rw [szF_lt hq]; omega
          have e2 := hid (szF_lt (left := left) (n := totM ms) (by unfold totM; have := HT.out; have := HL.out; omega))
          go_wp2
          go_ret
          exact ⟨ret_int e2.out.symm, hext.next hw1⟩
        · have e1 := hid (szF_ge (left := left - ms.length - (S : Int)) (n := m.xs.length) (by omega))
          have hb : 0 ≤ szF (left - ms.length - (S : Int)) m.xs.length := by rw [szF_ge (by omega)]; omega
          go_wp2
          go_roundw
          case rel => exact ⟨j + 1, by omega, by go_num, by rw [e1.out, HT.out]; go_num, by rw [HT.out]; omega, hext.next hw1⟩
          case measure => simp [intOf]; omega
      · have e2 : Hid (szF left (totM ms) = left - ms.length - ((ms.take j).map fun m => m.xs.length).sum) := by
          have : ms.take j = ms := List.take_of_length_le (by omega)
          rw [this] at hp ⊢
          show szF left (totM ms) = _
          rw [szF_ge (by unfold totM; omega)]
          unfold totM
          omega
        go_wp2
        go_ret
        exact ⟨ret_int e2.out.symm, hext⟩

theorem szPoly (A : Option Addr) (k : Nat) (ms : List Mn) (left : Int) (w : World) (h : AM w A ms) (hs : SzA ms) (h0 : 0 ≤ left) (h1 : left ≤ 1048576) :
    Calls Try.prog 54 #[.agg #[.slice A ms.length k], .int .i64 left] w fun e w' => e = .returned (.int .i64 (szF left (totM ms))) ∧ Ext w w' := by
  by_cases hq : left < totM ms
  · have e1 := hid (szF_lt hq)
    have hb : szF left (totM ms) < 0 := by rw [szF_lt hq]; omega
    go_enter Try.func54, Try.ntmps54
    go_wp2_with fail
    refine (szMonoS _ _ _ _ _ (h.ext (by repeat (first | with_reducible assumption | with_reducible exact Ext.refl _ | with_reducible apply Ext.drewN | with_reducible apply Ext.drew | with_reducible apply Ext.alloc))) hs h0 h1).mono ?_
    rintro e w1 ⟨rfl, hw1⟩
    go_wp2
    go_ret
    exact ⟨ret_int e1.out.symm, (Ext.next (by repeat (first | with_reducible assumption | with_reducible exact Ext.refl _ | with_reducible apply Ext.drewN | with_reducible apply Ext.drew | with_reducible apply Ext.alloc)) hw1)⟩
  · have hb : 0 ≤ szF left (totM ms) := by rw [szF_ge (by omega)]; omega
    go_enter Try.func54, Try.ntmps54
    go_wp2_with fail
    refine (szMonoS _ _ _ _ _ (h.ext (by repeat (first | with_reducible assumption | with_reducible exact Ext.refl _ | with_reducible apply Ext.drewN | with_reducible apply Ext.drew | with_reducible apply Ext.alloc))) hs h0 h1).mono ?_
    rintro e w1 ⟨rfl, hw1⟩
    go_wp2
    go_ret
    exact ⟨rfl, (Ext.next (by repeat (first | with_reducible assumption | with_reducible exact Ext.refl _ | with_reducible apply Ext.drewN | with_reducible apply Ext.drew | with_reducible apply Ext.alloc)) hw1)⟩
end Go.Proofs.Ytkdggfkigjpbfaa
