/- Contracts of what reads a sum: whether it is ok, under a number, in order. Conditions: lengths that a machine can hold. -/
import Derived.Test.YtkdggfkigjpbfaaC
namespace Go.Proofs.Ytkdggfkigjpbfaa
open Go Go.RowKit
set_option linter.unusedVariables false
set_option linter.unusedSimpArgs false

def sortedB : List Int → Bool
  | [] => true
  | [_] => true
  | a :: b :: l => decide (a ≤ b) && sortedB (b :: l)

theorem sortedB_of : ∀ {xs : List Int}, (∀ t x y, xs[t]? = some x → xs[t + 1]? = some y → x ≤ y) → sortedB xs = true
  | [], _ => rfl
  | [_], _ => rfl
  | a :: b :: l, h => by
    rw [sortedB, Bool.and_eq_true]
    exact ⟨decide_eq_true (h 0 a b rfl rfl), sortedB_of fun t x y hx hy => h (t + 1) x y (by simpa using hx) (by simpa using hy)⟩
theorem sortedB_not : ∀ {xs : List Int} {t : Nat} {x y : Int}, xs[t]? = some x → xs[t + 1]? = some y → y < x → sortedB xs = false
  | [], t, x, y, hx, hy, h => by simp at hx
  | [a], t, x, y, hx, hy, h => by simp at hy
  | a :: b :: l, 0, x, y, hx, hy, h => by
    simp at hx hy
    subst hx hy
    rw [sortedB, decide_eq_false (by omega), Bool.false_and]
  | a :: b :: l, t + 1, x, y, hx, hy, h => by
    rw [sortedB, sortedB_not (xs := b :: l) (t := t) (by simpa using hx) (by simpa using hy) h, Bool.and_false]

theorem isSorted (A : Option Addr) (k : Nat) (xs : List Int) (w : World) (h : RI 3 w A xs) (hn : xs.length < 4611686018427387904) :
    Calls Try.prog 58 #[.slice A xs.length k] w fun e w' => e = .returned (.bool (sortedB xs)) ∧ Ext w w' := by
  by_cases hz : xs.length = 0
  · have hx : xs = [] := List.eq_nil_of_length_eq_zero hz
    subst hx
    clear h hn hz
    go_enter Try.func58, Try.ntmps58
    go_wp2
    refine wp_loop_rounds 1 ?_
    rw [rounds_succ]
    go_wp2
    go_ret
    exact ⟨rfl, Ext.refl _⟩
  · have hz' : 1 ≤ xs.length := by omega
    clear hz
    go_enter Try.func58, Try.ntmps58
    go_wp2
    go_loopw [3] (fun i wr => ∃ j : Nat, j < xs.length ∧ i = .int .i64 j ∧ (∀ t, j ≤ t → ∀ x y, xs[t]? = some x → xs[t + 1]? = some y → x ≤ y) ∧ Ext w wr) (fun i _ => (intOf i).toNat)
    case atStart =>
      exact ⟨xs.length - 1, by omega, by go_num, fun t ht x y hx hy => (by
        obtain ⟨h1, _⟩ := List.getElem?_eq_some_iff.1 hy
        omega), Ext.refl _⟩
    case round =>
      obtain ⟨j, hj, rfl, hall, hext⟩ := hrel
      have HA := hid hall
      clear hall
      rcases j with _ | q
      · have HS := hid (sortedB_of fun t x y => HA.out t (Nat.zero_le _) x y)
        go_wp2
        go_ret
        exact ⟨ret_bool HS.out.symm, hext⟩
      · obtain ⟨b, o, x, rfl, hb, hx, hcell⟩ := (h.ext hext).at_ (i := q + 1) hj
        obtain ⟨b', o', y, e, hb', hy, hcell'⟩ := (h.ext hext).at_ (i := q) (by omega)
        injection e with e
        injection e with e1 e2 _
        subst e1 e2
        have HX := hid hx
        have HY := hid hy
        clear hx hy h
        by_cases hlt : x < y
        · have HS := hid (sortedB_not HY.out HX.out hlt)
          go_wp2
          refine wp_region_over (by kernel_rfl) (by kernel_rfl) ?_
          repeat (go_big_quiet_step ((go_at_call 68; exact calls_over_same (cmpLess _ _ _))))
          refine wpQuiet_nil ?_
          rintro _ ⟨⟨wq, hwq⟩, rfl⟩
          go_wp2
          go_ret
          exact ⟨ret_bool HS.out.symm, hext.next hwq⟩
        · go_wp2
          refine wp_region_over (by kernel_rfl) (by kernel_rfl) ?_
          repeat (go_big_quiet_step ((go_at_call 68; exact calls_over_same (cmpLess _ _ _))))
          refine wpQuiet_nil ?_
          rintro _ ⟨⟨wq, hwq⟩, rfl⟩
          go_wp2
          go_roundw
          case rel =>
            refine ⟨q, by omega, by go_num, fun t ht x' y' hx' hy' => ?_, hext.next hwq⟩
            rcases Nat.lt_or_ge q t with h1 | h1
            · exact HA.out t (by omega) x' y' hx' hy'
            · obtain rfl : t = q := by omega
              rw [HY.out] at hx'
              rw [HX.out] at hy'
              injection hx' with hx'
              injection hy' with hy'
              omega
          case measure => simp [intOf]

/-- The first place at which p says yes; -1, if there is none. -/
def idxF {α : Type} (p : α → Bool) (xs : List α) : Int := if xs.any p then (xs.findIdx p : Int) else -1
theorem idxF_hit {α : Type} {p : α → Bool} {xs : List α} {j : Nat} {x : α} (hx : xs[j]? = some x) (hp : p x = true) (hall : ∀ t, t < j → ∀ y, xs[t]? = some y → p y = false) : idxF p xs = j := by
  obtain ⟨hj, he⟩ := List.getElem?_eq_some_iff.1 hx
  have h1 : xs.any p = true := List.any_eq_true.2 ⟨x, List.mem_of_getElem? hx, hp⟩
  have h2 : xs.findIdx p = j := by
    rw [List.findIdx_eq hj]
    refine ⟨by rw [he]; exact hp, fun t ht => hall t ht _ (List.getElem?_eq_getElem (by omega))⟩
  rw [idxF, if_pos h1, h2]
theorem idxF_miss {α : Type} {p : α → Bool} {xs : List α} (hall : ∀ t, t < xs.length → ∀ y, xs[t]? = some y → p y = false) : idxF p xs = -1 := by
  have h1 : xs.any p = false := by
    rw [List.any_eq_false]
    intro x hx
    obtain ⟨i, hi, rfl⟩ := List.getElem_of_mem hx
    rw [hall i hi _ (List.getElem?_eq_getElem hi)]
    simp
  rw [idxF, h1, if_neg (by simp)]
theorem idxF_any {α : Type} (p : α → Bool) (xs : List α) : decide (0 ≤ idxF p xs) = xs.any p := by
  unfold idxF
  cases xs.any p <;> simp

theorem polUnderC (x n : Int) (g : Nat) (w : World) (hc : w.cell? ⟨g, 0, none⟩ = some (.int .i64 n)) :
    Calls Try.prog 63 #[.int .i64 x, .pointer (some ⟨g, 0, none⟩)] w fun e w' => e = .returned (.bool (decide (n ≤ x))) ∧ w = w' := by
  go_enter Try.func63, Try.ntmps63
  go_wp2
  go_ret
  exact ⟨rfl, rfl⟩

theorem indexUnder (A : Option Addr) (k : Nat) (xs : List Int) (n : Int) (g : Nat) (w : World) (h : RI 3 w A xs) (hn : xs.length < 4611686018427387904) (hc : w.cell? ⟨g, 0, none⟩ = some (.int .i64 n)) :
    Calls Try.prog 73 #[.slice A xs.length k, .func (.func 63) #[] #[.pointer (some ⟨g, 0, none⟩)]] w fun e w' =>
      e = .returned (.int .i64 (idxF (fun x => decide (n ≤ x)) xs)) ∧ w = w' := by
  go_enter Try.func73, Try.ntmps73
  go_wp2
  go_loop [8] (fun i => ∃ j : Nat, j ≤ xs.length ∧ i = .int .i64 j ∧ ∀ t, t < j → ∀ y, xs[t]? = some y → decide (n ≤ y) = false) (fun i => xs.length - (intOf i).toNat)
  case atStart => exact ⟨0, Nat.zero_le _, rfl, fun t ht => absurd ht (by omega)⟩
  case round =>
    obtain ⟨j, hj, rfl, hall⟩ := hrel
    have HA := hid hall
    clear hall
    by_cases hlt : j < xs.length
    · obtain ⟨b, o, x, rfl, hb, hx, hcell⟩ := h.at_ hlt
      have HX := hid hx
      clear hx h
      by_cases hw : n ≤ x
      · have HS := hid (idxF_hit (p := fun x => decide (n ≤ x)) HX.out (decide_eq_true hw) HA.out)
        go_wp2_with (go_at_call 63; refine (polUnderC _ _ _ _ hc).mono ?_; rintro e w' ⟨rfl, rfl⟩)
        go_ret
        exact ⟨ret_int HS.out.symm, rfl⟩
      · go_wp2_with (go_at_call 63; refine (polUnderC _ _ _ _ hc).mono ?_; rintro e w' ⟨rfl, rfl⟩)
        go_round
        case rel =>
          refine ⟨j + 1, by omega, by go_num, fun t ht y hy => ?_⟩
          rcases Nat.lt_or_ge t j with h1 | h1
          · exact HA.out t h1 y hy
          · obtain rfl : t = j := by omega
            rw [HX.out] at hy
            injection hy with hy
            rw [← hy]
            exact decide_eq_false (by omega)
        case measure => simp [intOf]; omega
    · have HS := hid (idxF_miss (p := fun x => decide (n ≤ x)) (xs := xs) fun t ht => HA.out t (by omega))
      go_wp2
      go_ret
      exact ⟨ret_int HS.out.symm, rfl⟩

theorem containsUnder (A : Option Addr) (k : Nat) (xs : List Int) (n : Int) (g : Nat) (w : World) (h : RI 3 w A xs) (hn : xs.length < 4611686018427387904) (hc : w.cell? ⟨g, 0, none⟩ = some (.int .i64 n)) :
    Calls Try.prog 62 #[.slice A xs.length k, .func (.func 63) #[] #[.pointer (some ⟨g, 0, none⟩)]] w fun e w' =>
      e = .returned (.bool (xs.any fun x => decide (n ≤ x))) ∧ w = w' := by
  have HS := hid (idxF_any (fun x => decide (n ≤ x)) xs)
  go_enter Try.func62, Try.ntmps62
  go_wp2_with (go_at_call 73; refine (indexUnder _ _ _ _ _ _ h hn hc).mono ?_; rintro e w' ⟨rfl, rfl⟩)
  go_ret
  exact ⟨ret_bool HS.out, rfl⟩

/-- All atoms are under n. -/
def underM (n : Int) (m : Int × List Int) : Bool := !(m.2.any fun x => decide (n ≤ x))
def polUnder (n : Int) (p : List (Int × List Int)) : Bool := p.all (underM n)

theorem all_of {α : Type} {f : α → Bool} {xs : List α} (h : ∀ i, i < xs.length → ∀ x, xs[i]? = some x → f x = true) : xs.all f = true := by
  rw [List.all_eq_true]
  intro x hx
  obtain ⟨i, hi, rfl⟩ := List.getElem_of_mem hx
  exact h i hi _ (List.getElem?_eq_getElem hi)
theorem all_not {α : Type} {f : α → Bool} {xs : List α} {i : Nat} {x : α} (hx : xs[i]? = some x) (h : f x = false) : xs.all f = false := by
  rw [List.all_eq_false]
  exact ⟨x, List.mem_of_getElem? hx, by simp [h]⟩
theorem polUnder_of {ms : List Mn} {n : Int} (h : ∀ i, i < ms.length → ∀ m, ms[i]? = some m → (m.xs.any fun x => decide (n ≤ x)) = false) : polUnder n (ms.map Mn.dat) = true := by
  unfold polUnder
  rw [List.all_map]
  exact all_of fun i hi m hm => by simp only [Function.comp, underM, Mn.dat, h i hi m hm]; rfl
theorem polUnder_not {ms : List Mn} {n : Int} {i : Nat} {m : Mn} (hm : ms[i]? = some m) (h : (m.xs.any fun x => decide (n ≤ x)) = true) : polUnder n (ms.map Mn.dat) = false := by
  unfold polUnder
  rw [List.all_map]
  exact all_not hm (by simp only [Function.comp, underM, Mn.dat, h]; rfl)

theorem implPolUnder (A : Option Addr) (k : Nat) (ms : List Mn) (n : Int) (w : World) (h : RM 72 3 w A ms) (hs : SzM ms) :
    Calls Try.prog 42 #[.agg #[.slice A ms.length k], .int .i64 n] w fun e w' => e = .returned (.bool (polUnder n (ms.map Mn.dat))) ∧ Ext w w' := by
  have hn := hs.1
  go_enter Try.func42, Try.ntmps42
  go_wp2
  go_loopw [10] (fun i wr => ∃ j : Nat, j ≤ ms.length ∧ i = .int .i64 j ∧ (∀ t, t < j → ∀ m, ms[t]? = some m → (m.xs.any fun x => decide (n ≤ x)) = false) ∧ Ext w wr ∧ wr.cell? ⟨w.heap.size + 1, 0, none⟩ = some (.int .i64 n)) (fun i _ => ms.length - (intOf i).toNat)
  case atStart => exact ⟨0, Nat.zero_le _, rfl, fun t ht => absurd ht (by omega), (by repeat (first | with_reducible assumption | with_reducible exact Ext.refl _ | with_reducible apply Ext.drewN | with_reducible apply Ext.drew | with_reducible apply Ext.alloc)), by go_simp⟩
  case round =>
    obtain ⟨j, hj, rfl, hall, hext, hcn⟩ := hrel
    have HA := hid hall
    clear hall
    have hlt2 := World.block_lt_of_cell? wr _ hcn
    simp only at hlt2
    by_cases hlt : j < ms.length
    · obtain ⟨b, o, m, rfl, hb, hm, hc0, hc1, hI⟩ := (h.ext hext).at_ hlt
      have HM := hid hm
      have hsz := hs.at_ hm
      clear hm h
      go_wp2_with fail
      refine (containsUnder _ _ _ n _ _ (hI.ext (by repeat (first | with_reducible assumption | with_reducible exact Ext.refl _ | with_reducible apply Ext.drewN | with_reducible apply Ext.drew | with_reducible apply Ext.alloc))) hsz ?_).mono ?_
      · go_simp
      · rintro e w' ⟨rfl, rfl⟩
        by_cases hu : (m.xs.any fun x => decide (n ≤ x)) = true
        · have HS := hid (polUnder_not HM.out hu)
          go_wp2
          go_ret
          exact ⟨ret_bool HS.out.symm, (by repeat (first | with_reducible assumption | with_reducible exact Ext.refl _ | with_reducible apply Ext.drewN | with_reducible apply Ext.drew | with_reducible apply Ext.alloc))⟩
        · have hu' : (m.xs.any fun x => decide (n ≤ x)) = false := by simpa using hu
          clear hu
          go_wp2
          go_roundw
          case rel =>
            refine ⟨j + 1, by omega, by go_num, fun t ht m' hm' => ?_, (by repeat (first | with_reducible assumption | with_reducible exact Ext.refl _ | with_reducible apply Ext.drewN | with_reducible apply Ext.drew | with_reducible apply Ext.alloc)), by go_simp⟩
            rcases Nat.lt_or_ge t j with h1 | h1
            · exact HA.out t h1 m' hm'
            · obtain rfl : t = j := by omega
              rw [HM.out] at hm'
              injection hm' with hm'
              rw [← hm']
              exact hu'
          case measure => simp [intOf]; omega
    · have HS := hid (polUnder_of (n := n) fun i hi => HA.out i (by omega))
      go_wp2
      go_ret
      exact ⟨ret_bool HS.out.symm, hext⟩

theorem specPolUnder (A : Option Addr) (k : Nat) (ms : List Mn) (n : Int) (w : World) (h : RM 72 3 w A ms) (hs : SzM ms) :
    Calls Try.prog 37 #[.agg #[.slice A ms.length k], .int .i64 n] w fun e w' => e = .returned (.bool (polUnder n (ms.map Mn.dat))) ∧ Ext w w' := by
  have hn := hs.1
  go_enter Try.func37, Try.ntmps37
  go_wp2
  go_loop [5] (fun i => ∃ j : Nat, j ≤ ms.length ∧ i = .int .i64 j ∧ (∀ t, t < j → ∀ m, ms[t]? = some m → (m.xs.any fun x => decide (n ≤ x)) = false)) (fun i => ms.length - (intOf i).toNat)
  case atStart => exact ⟨0, Nat.zero_le _, rfl, fun t ht => absurd ht (by omega)⟩
  case round =>
    obtain ⟨j, hj, rfl, hall⟩ := hrel
    have HA := hid hall
    clear hall
    by_cases hlt : j < ms.length
    · obtain ⟨b, o, m, rfl, hb, hm, hc0, hc1, hI⟩ := h.at_ hlt
      have HM := hid hm
      have hsz := hs.at_ hm
      clear hm h
      go_wp2
      go_loop [6] (fun i => ∃ q : Nat, q ≤ m.xs.length ∧ i = .int .i64 q ∧ ∀ t, t < q → ∀ y, m.xs[t]? = some y → decide (n ≤ y) = false) (fun i => m.xs.length - (intOf i).toNat)
      case atStart => exact ⟨0, Nat.zero_le _, rfl, fun t ht => absurd ht (by omega)⟩
      case round =>
        obtain ⟨q, hq, rfl, hall⟩ := hrel
        have HB := hid hall
        clear hall
        by_cases hlq : q < m.xs.length
        · obtain ⟨b', o', x, hA, hb', hx, hcell⟩ := hI.at_ hlq
          rw [hA] at hc1
          have HX := hid hx
          clear hx hI hA
          by_cases hw : n ≤ x
          · have HS := hid (polUnder_not HM.out (List.any_eq_true.2 ⟨x, List.mem_of_getElem? HX.out, decide_eq_true hw⟩))
            go_wp2
            go_ret
            exact ⟨ret_bool HS.out.symm, (by repeat (first | with_reducible assumption | with_reducible exact Ext.refl _ | with_reducible apply Ext.drewN | with_reducible apply Ext.drew | with_reducible apply Ext.alloc))⟩
          · go_wp2
            go_round
            case rel =>
              refine ⟨q + 1, by omega, by go_num, fun t ht y hy => ?_⟩
              rcases Nat.lt_or_ge t q with h1 | h1
              · exact HB.out t h1 y hy
              · obtain rfl : t = q := by omega
                rw [HX.out] at hy
                injection hy with hy
                rw [← hy]
                exact decide_eq_false (by omega)
            case measure => simp [intOf]; omega
        · go_wp2
          go_round
          case rel =>
            refine ⟨j + 1, by omega, by go_num, fun t ht m' hm' => ?_⟩
            rcases Nat.lt_or_ge t j with h1 | h1
            · exact HA.out t h1 m' hm'
            · obtain rfl : t = j := by omega
              rw [HM.out] at hm'
              injection hm' with hm'
              rw [← hm', List.any_eq_false]
              intro y hy
              obtain ⟨i, hi, rfl⟩ := List.getElem_of_mem hy
              rw [HB.out i (by omega) _ (List.getElem?_eq_getElem hi)]
              simp
          case measure => simp [intOf]; omega
    · have HS := hid (polUnder_of (n := n) fun i hi => HA.out i (by omega))
      go_wp2
      go_ret
      exact ⟨ret_bool HS.out.symm, (by repeat (first | with_reducible assumption | with_reducible exact Ext.refl _ | with_reducible apply Ext.drewN | with_reducible apply Ext.drew | with_reducible apply Ext.alloc))⟩
end Go.Proofs.Ytkdggfkigjpbfaa
