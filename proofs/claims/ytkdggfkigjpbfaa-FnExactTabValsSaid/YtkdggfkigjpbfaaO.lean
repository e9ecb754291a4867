/- Contracts of PolOk and of what it calls. Conditions: lengths that a machine can hold. -/
import Derived.Test.YtkdggfkigjpbfaaP
namespace Go.Proofs.Ytkdggfkigjpbfaa
open Go Go.RowKit
set_option linter.unusedVariables false
set_option linter.unusedSimpArgs false

def monoOk (m : Int × List Int) : Bool := inB m.1 1 65535 && decide (m.2.length ≤ 4) && m.2.all (fun a => inB a 0 199) && sortedB m.2
def chainB : List (Int × List Int) → Bool
  | [] => true
  | [_] => true
  | a :: b :: l => decide (aOrd a.2 b.2 < 0) && chainB (b :: l)
def polOk (p : List (Int × List Int)) : Bool := decide (p.length ≤ 12) && p.all monoOk && chainB p

theorem monoOk_not_coef {m : Int × List Int} (h : inB m.1 1 65535 = false) : monoOk m = false := by simp [monoOk, h]
theorem monoOk_not_len {m : Int × List Int} (h : 4 < m.2.length) : monoOk m = false := by
  have : decide (m.2.length ≤ 4) = false := decide_eq_false (by omega)
  simp only [monoOk, this, Bool.and_false, Bool.false_and]
theorem monoOk_not_at {m : Int × List Int} {i : Nat} {x : Int} (hx : m.2[i]? = some x) (h : inB x 0 199 = false) : monoOk m = false := by
  simp only [monoOk, all_not (f := fun a => inB a 0 199) hx h, Bool.and_false, Bool.false_and]
theorem monoOk_not_sort {m : Int × List Int} {i : Nat} {x y : Int} (hx : m.2[i]? = some x) (hy : m.2[i + 1]? = some y) (h : y < x) : monoOk m = false := by
  simp only [monoOk, sortedB_not hx hy h, Bool.and_false]
theorem monoOk_of {m : Int × List Int} (h1 : inB m.1 1 65535 = true) (h2 : m.2.length ≤ 4) (h3 : ∀ t, t < m.2.length → ∀ y, m.2[t]? = some y → inB y 0 199 = true ∧ ∀ x, 0 < t → m.2[t - 1]? = some x → x ≤ y) : monoOk m = true := by
  have e1 : m.2.all (fun a => inB a 0 199) = true := all_of fun i hi x hx => (h3 i hi x hx).1
  have e2 : sortedB m.2 = true := sortedB_of fun t x y hx hy => by
    obtain ⟨ht, _⟩ := List.getElem?_eq_some_iff.1 hy
    exact (h3 (t + 1) ht y hy).2 x (by omega) (by simpa using hx)
  simp only [monoOk, h1, decide_eq_true h2, e1, e2, Bool.and_true]

theorem specMono (A : Option Addr) (k : Nat) (c : Int) (xs : List Int) (w : World) (h : RI 3 w A xs) (hn : xs.length < 4611686018427387904) :
    Calls Try.prog 55 #[.agg #[.int .i64 c, .slice A xs.length k]] w fun e w' => e = .returned (.bool (monoOk (c, xs))) ∧ Ext w w' := by
  by_cases h1 : inB c 1 65535 = true
  · by_cases h2 : xs.length ≤ 4
    · go_enter Try.func55, Try.ntmps55
      go_wp2_with (go_at_call 34; refine (specL1In _ _ _ _).mono ?_; rintro e w' ⟨rfl, rfl⟩)
      go_loopw [3] (fun i wr => ∃ j : Nat, j ≤ xs.length ∧ i = .int .i64 j ∧ (∀ t, t < j → ∀ y, xs[t]? = some y → inB y 0 199 = true ∧ ∀ x, 0 < t → xs[t - 1]? = some x → x ≤ y) ∧ Ext w wr ∧
        wr.cell? ⟨w.heap.size, 1, none⟩ = some (.slice A xs.length k)) (fun i _ => xs.length - (intOf i).toNat)
      case atStart => exact ⟨0, Nat.zero_le _, rfl, fun t ht => absurd ht (by omega), (by repeat (first | with_reducible assumption | with_reducible exact Ext.refl _ | with_reducible apply Ext.drewN | with_reducible apply Ext.drew | with_reducible apply Ext.alloc)), by go_simp⟩
      case round =>
        obtain ⟨j, hj, rfl, hall, hext, hcx⟩ := hrel
        have HA := hid hall
        clear hall
        have hlt2 := World.block_lt_of_cell? wr _ hcx
        simp only at hlt2
        by_cases hlt : j < xs.length
        · obtain ⟨b, o, x, rfl, hb, hx, hcell⟩ := (h.ext hext).at_ hlt
          have HX := hid hx
          clear hx
          by_cases hi : inB x 0 199 = true
          · rcases j with _ | q
            · simp only [Nat.add_zero] at hcell
              go_wp2
              refine wp_region_over (by kernel_rfl) (by kernel_rfl) ?_
              repeat (go_big_quiet_step ((go_at_call 34; exact calls_over_same (specL1In _ _ _ _))))
              refine wpQuiet_nil ?_
              rintro _ ⟨⟨wq, hwq⟩, rfl⟩
              go_wp2
              go_roundw
              case rel => exact ⟨1, by omega, by go_num, lt_step HA.out HX.out ⟨hi, fun _ h => absurd h (by omega)⟩, hext.next hwq, keep hwq hcx⟩
              case measure => simp [intOf]; omega
            · obtain ⟨b', o', y, e, hb', hy, hcell'⟩ := (h.ext hext).at_ (i := q) (by omega)
              injection e with e
              injection e with e1 e2 _
              subst e1 e2
              have HY := hid hy
              clear hy h
              by_cases hc : x < y
              · have HS := hid (monoOk_not_sort (m := (c, xs)) HY.out HX.out hc)
                go_wp2
                refine wp_region_over (by kernel_rfl) (by kernel_rfl) ?_
                repeat (go_big_quiet_step ((go_at_call 34; exact calls_over_same (specL1In _ _ _ _))))
                refine wpQuiet_nil ?_
                rintro _ ⟨⟨wq, hwq⟩, rfl⟩
                go_wp2
                go_ret
                exact ⟨ret_bool HS.out.symm, hext.next hwq⟩
              · go_wp2
                refine wp_region_over (by kernel_rfl) (by kernel_rfl) ?_
                repeat (go_big_quiet_step ((go_at_call 34; exact calls_over_same (specL1In _ _ _ _))))
                refine wpQuiet_nil ?_
                rintro _ ⟨⟨wq, hwq⟩, rfl⟩
                go_wp2
                go_roundw
                case rel =>
                  refine ⟨q + 2, by omega, by go_num, lt_step HA.out HX.out ⟨hi, fun z _ hz => ?_⟩, hext.next hwq, keep hwq hcx⟩
                  rw [Nat.add_sub_cancel, HY.out] at hz
                  injection hz with hz
                  omega
                case measure => simp [intOf]; omega
          · have hi' : inB x 0 199 = false := by simpa using hi
            clear hi h
            have HS := hid (monoOk_not_at (m := (c, xs)) HX.out hi')
            go_wp2
            refine wp_region_over (by kernel_rfl) (by kernel_rfl) ?_
            repeat (go_big_quiet_step ((go_at_call 34; exact calls_over_same (specL1In _ _ _ _))))
            refine wpQuiet_nil ?_
            rintro _ ⟨⟨wq, hwq⟩, rfl⟩
            go_wp2
            go_ret
            exact ⟨ret_bool HS.out.symm, hext.next hwq⟩
        · have HS := hid (monoOk_of (m := (c, xs)) h1 h2 fun t ht => HA.out t (by have : t < xs.length := ht; omega))
          go_wp2
          go_ret
          exact ⟨ret_bool HS.out.symm, hext⟩
    · have HS := hid (monoOk_not_len (m := (c, xs)) (by show 4 < xs.length; omega))
      go_enter Try.func55, Try.ntmps55
      go_wp2_with (go_at_call 34; refine (specL1In _ _ _ _).mono ?_; rintro e w' ⟨rfl, rfl⟩)
      go_ret
      exact ⟨ret_bool HS.out.symm, (by repeat (first | with_reducible assumption | with_reducible exact Ext.refl _ | with_reducible apply Ext.drewN | with_reducible apply Ext.drew | with_reducible apply Ext.alloc))⟩
  · have h1' : inB c 1 65535 = false := by simpa using h1
    clear h1
    have HS := hid (monoOk_not_coef (m := (c, xs)) h1')
    go_enter Try.func55, Try.ntmps55
    go_wp2_with (go_at_call 34; refine (specL1In _ _ _ _).mono ?_; rintro e w' ⟨rfl, rfl⟩)
    go_ret
    exact ⟨ret_bool HS.out.symm, (by repeat (first | with_reducible assumption | with_reducible exact Ext.refl _ | with_reducible apply Ext.drewN | with_reducible apply Ext.drew | with_reducible apply Ext.alloc))⟩

def firstNeg (m : Int × List Int) : Bool := match m.2 with | [] => false | a :: _ => decide (a < 0)

theorem polOkC (A : Option Addr) (k : Nat) (c : Int) (xs : List Int) (w : World) (h : RI 3 w A xs) (hn : xs.length < 4611686018427387904) :
    Calls Try.prog 61 #[.agg #[.int .i64 c, .slice A xs.length k]] w fun e w' => e = .returned (.bool (firstNeg (c, xs))) ∧ Ext w w' := by
  rcases Nat.eq_zero_or_pos xs.length with hz | hz
  · have hx : xs = [] := List.eq_nil_of_length_eq_zero hz
    subst hx
    clear h hn hz
    go_enter Try.func61, Try.ntmps61
    go_wp2
    go_ret
    exact ⟨rfl, (by repeat (first | with_reducible assumption | with_reducible exact Ext.refl _ | with_reducible apply Ext.drewN | with_reducible apply Ext.drew | with_reducible apply Ext.alloc))⟩
  · obtain ⟨b, o, x, rfl, hb, hx, hcell⟩ := h.at_ hz
    have HS : Hid (firstNeg (c, xs) = decide (x < 0)) := by
      cases xs with
      | nil => simp at hx
      | cons a l => simp at hx; subst hx; exact rfl
    simp only [Nat.add_zero] at hcell
    clear hx h
    go_enter Try.func61, Try.ntmps61
    go_wp2
    go_ret
    exact ⟨ret_bool HS.out.symm, (by repeat (first | with_reducible assumption | with_reducible exact Ext.refl _ | with_reducible apply Ext.drewN | with_reducible apply Ext.drew | with_reducible apply Ext.alloc))⟩

theorem indexNeg (A : Option Addr) (k : Nat) (ms : List Mn) (w : World) (h : RM 72 3 w A ms) (hs : SzM ms) :
    Calls Try.prog 72 #[.slice A ms.length k, .func (.func 61) #[] #[]] w fun e w' =>
      e = .returned (.int .i64 (idxF (fun m => firstNeg (Mn.dat m)) ms)) ∧ Ext w w' := by
  have hn := hs.1
  go_enter Try.func72, Try.ntmps72
  go_wp2
  go_loopw [8] (fun i wr => ∃ j : Nat, j ≤ ms.length ∧ i = .int .i64 j ∧ (∀ t, t < j → ∀ m, ms[t]? = some m → firstNeg (Mn.dat m) = false) ∧ Ext w wr) (fun i _ => ms.length - (intOf i).toNat)
  case atStart => exact ⟨0, Nat.zero_le _, rfl, fun t ht => absurd ht (by omega), (by repeat (first | with_reducible assumption | with_reducible exact Ext.refl _ | with_reducible apply Ext.drewN | with_reducible apply Ext.drew | with_reducible apply Ext.alloc))⟩
  case round =>
    obtain ⟨j, hj, rfl, hall, hext⟩ := hrel
    have HA := hid hall
    clear hall
    by_cases hlt : j < ms.length
    · obtain ⟨b, o, m, rfl, hb, hm, hc0, hc1, hI⟩ := (h.ext hext).at_ hlt
      have HM := hid hm
      have hsz := hs.at_ hm
      clear hm h
      go_wp2_with fail
      refine (polOkC _ _ _ _ _ (hI.ext (by repeat (first | with_reducible assumption | with_reducible exact Ext.refl _ | with_reducible apply Ext.drewN | with_reducible apply Ext.drew | with_reducible apply Ext.alloc))) hsz).mono ?_
      rintro e w' ⟨rfl, hw1⟩
      by_cases hu : firstNeg (m.c, m.xs) = true
      · have HS := hid (idxF_hit (p := fun m => firstNeg (Mn.dat m)) HM.out hu HA.out)
        go_wp2
        go_ret
        exact ⟨ret_int HS.out.symm, hext.next hw1⟩
      · have hu' : firstNeg (m.c, m.xs) = false := by simpa using hu
        clear hu
        go_wp2
        go_roundw
        case rel => exact ⟨j + 1, by omega, by go_num, lt_step HA.out HM.out hu', hext.next hw1⟩
        case measure => simp [intOf]; omega
    · have HS := hid (idxF_miss (p := fun m => firstNeg (Mn.dat m)) (xs := ms) fun t ht => HA.out t (by omega))
      go_wp2
      go_ret
      exact ⟨ret_int HS.out.symm, hext⟩

theorem containsNeg (A : Option Addr) (k : Nat) (ms : List Mn) (w : World) (h : RM 72 3 w A ms) (hs : SzM ms) :
    Calls Try.prog 60 #[.slice A ms.length k, .func (.func 61) #[] #[]] w fun e w' =>
      e = .returned (.bool ((ms.map Mn.dat).any firstNeg)) ∧ Ext w w' := by
  have HS := hid (idxF_any (fun m => firstNeg (Mn.dat m)) ms)
  go_enter Try.func60, Try.ntmps60
  go_wp2_with (go_at_call 72; refine (indexNeg _ _ _ _ h hs).mono ?_; rintro e w' ⟨rfl, hw⟩)
  go_ret
  exact ⟨ret_bool (by rw [HS.out, List.any_map]; rfl), (by repeat (first | with_reducible assumption | with_reducible exact Ext.refl _ | with_reducible apply Ext.drewN | with_reducible apply Ext.drew | with_reducible apply Ext.alloc))⟩

def implOk (p : List (Int × List Int)) : Bool := p.all (fun m => inB m.1 1 65535 && decide (m.2.length ≤ 4) && sortedB m.2) && chainB p && (decide (p.length ≤ 12) && polUnder 200 p && !(p.any firstNeg))

theorem sorted_le : ∀ {a : Int} {l : List Int}, sortedB (a :: l) = true → ∀ x ∈ l, a ≤ x
  | a, [], _, x, hx => by cases hx
  | a, b :: l, h, x, hx => by
    rw [sortedB, Bool.and_eq_true, decide_eq_true_eq] at h
    rcases List.mem_cons.1 hx with rfl | hx
    · exact h.1
    · exact Int.le_trans h.1 (sorted_le h.2 x hx)
theorem range_sorted {xs : List Int} (hs : sortedB xs = true) (c : Int) : (xs.all fun a => inB a 0 199) = (!(xs.any fun x => decide (200 ≤ x)) && !firstNeg (c, xs)) := by
  rw [Bool.eq_iff_iff]
  simp only [List.all_eq_true, Bool.and_eq_true, Bool.not_eq_true', List.any_eq_false, decide_eq_true_eq, inB]
  constructor
  · intro h
    refine ⟨fun x hx => by have := (h x hx).2; omega, ?_⟩
    cases xs with
    | nil => rfl
    | cons a l => exact decide_eq_false (by have := (h a (by simp)).1; omega)
  · rintro ⟨h1, h2⟩ x hx
    refine ⟨?_, by have := h1 x hx; omega⟩
    cases xs with
    | nil => cases hx
    | cons a l =>
      have ha : ¬ a < 0 := of_decide_eq_false h2
      rcases List.mem_cons.1 hx with rfl | hx
      · omega
      · have := sorted_le hs x hx; omega
theorem implOk_eq (p : List (Int × List Int)) : implOk p = polOk p := by
  have key : ∀ q : List (Int × List Int), (q.all (fun m => inB m.1 1 65535 && decide (m.2.length ≤ 4) && sortedB m.2) && (polUnder 200 q && !(q.any firstNeg))) = q.all monoOk := by
    intro q
    induction q with
    | nil => rfl
    | cons m l ih =>
      simp only [List.all_cons, polUnder, List.any_cons, ← ih, monoOk, underM] at *
      cases hs : sortedB m.2
      · simp
      · rw [range_sorted hs m.1]
        cases inB m.1 1 65535 <;> cases decide (m.2.length ≤ 4) <;> cases (m.2.any fun x => decide (200 ≤ x)) <;> cases hf : firstNeg m <;> simp [hf] <;>
          cases (l.all fun m => inB m.1 1 65535 && decide (m.2.length ≤ 4) && sortedB m.2) <;> simp
  unfold implOk polOk
  rw [← key p]
  cases decide (p.length ≤ 12) <;> cases chainB p <;> cases polUnder 200 p <;> cases p.any firstNeg <;> simp

theorem chainB_of : ∀ {p : List (Int × List Int)}, (∀ t m m', p[t]? = some m → p[t + 1]? = some m' → aOrd m.2 m'.2 < 0) → chainB p = true
  | [], _ => rfl
  | [_], _ => rfl
  | a :: b :: l, h => by
    rw [chainB, Bool.and_eq_true]
    exact ⟨decide_eq_true (h 0 a b rfl rfl), chainB_of fun t x y hx hy => h (t + 1) x y (by simpa using hx) (by simpa using hy)⟩
theorem chainB_not : ∀ {p : List (Int × List Int)} {t : Nat} {x y : Int × List Int}, p[t]? = some x → p[t + 1]? = some y → 0 ≤ aOrd x.2 y.2 → chainB p = false
  | [], t, x, y, hx, hy, h => by simp at hx
  | [a], t, x, y, hx, hy, h => by simp at hy
  | a :: b :: l, 0, x, y, hx, hy, h => by
    simp at hx hy
    subst hx hy
    rw [chainB, decide_eq_false (by omega), Bool.false_and]
  | a :: b :: l, t + 1, x, y, hx, hy, h => by
    rw [chainB, chainB_not (p := b :: l) (t := t) (by simpa using hx) (by simpa using hy) h, Bool.and_false]

def ok1 (m : Int × List Int) : Bool := inB m.1 1 65535 && decide (m.2.length ≤ 4) && sortedB m.2
/-- What holds of a part at its place. -/
def OkAt (f : Int × List Int → Bool) (ms : List Mn) (t : Nat) (m : Mn) : Prop := f m.dat = true ∧ ∀ m', 0 < t → ms[t - 1]? = some m' → aOrd m'.xs m.xs < 0
theorem dat_at {ms : List Mn} {t : Nat} {d : Int × List Int} (h : (ms.map Mn.dat)[t]? = some d) : ∃ m, ms[t]? = some m ∧ d = m.dat := by
  rw [List.getElem?_map] at h
  cases hm : ms[t]? with
  | none => rw [hm] at h; cases h
  | some m => rw [hm] at h; injection h with h; exact ⟨m, rfl, h.symm⟩
theorem dat_of {ms : List Mn} {t : Nat} {m : Mn} (h : ms[t]? = some m) : (ms.map Mn.dat)[t]? = some m.dat := by rw [List.getElem?_map, h]; rfl
theorem okAt_all {f : Int × List Int → Bool} {ms : List Mn} (h : ∀ t, t < ms.length → ∀ m, ms[t]? = some m → OkAt f ms t m) : ((ms.map Mn.dat).all f && chainB (ms.map Mn.dat)) = true := by
  rw [Bool.and_eq_true]
  refine ⟨all_of fun i hi d hd => ?_, chainB_of fun t d d' hd hd' => ?_⟩
  · obtain ⟨m, hm, rfl⟩ := dat_at hd
    exact (h i (by simpa using hi) m hm).1
  · obtain ⟨m, hm, rfl⟩ := dat_at hd
    obtain ⟨m', hm', rfl⟩ := dat_at hd'
    obtain ⟨ht, _⟩ := List.getElem?_eq_some_iff.1 hm'
    exact (h (t + 1) ht m' hm').2 m (by omega) hm
theorem okAt_not {f : Int × List Int → Bool} {ms : List Mn} {t : Nat} {m : Mn} (hm : ms[t]? = some m) (h : f m.dat = false) : ((ms.map Mn.dat).all f && chainB (ms.map Mn.dat)) = false := by
  rw [all_not (dat_of hm) h, Bool.false_and]
theorem okAt_ord {f : Int × List Int → Bool} {ms : List Mn} {t : Nat} {m m' : Mn} (hm : ms[t]? = some m) (hm' : ms[t + 1]? = some m') (h : 0 ≤ aOrd m.xs m'.xs) : ((ms.map Mn.dat).all f && chainB (ms.map Mn.dat)) = false := by
  rw [chainB_not (dat_of hm) (dat_of hm') h, Bool.and_false]
theorem implOk_not {p : List (Int × List Int)} (h : (p.all ok1 && chainB p) = false) : polOk p = false := by
  rw [← implOk_eq]
  have h' : (p.all (fun m => inB m.1 1 65535 && decide (m.2.length ≤ 4) && sortedB m.2) && chainB p) = false := h
  rw [implOk, h', Bool.false_and]
theorem implOk_rest {p : List (Int × List Int)} (h : (p.all ok1 && chainB p) = true) : polOk p = (decide (p.length ≤ 12) && polUnder 200 p && !(p.any firstNeg)) := by
  rw [← implOk_eq]
  have h' : (p.all (fun m => inB m.1 1 65535 && decide (m.2.length ≤ 4) && sortedB m.2) && chainB p) = true := h
  rw [implOk, h', Bool.true_and]
theorem specOk_not {p : List (Int × List Int)} (h : (p.all monoOk && chainB p) = false) : polOk p = false := by
  rw [polOk, Bool.and_assoc, h, Bool.and_false]

theorem ok1_of {m : Mn} (h1 : inB m.c 1 65535 = true) (h2 : m.xs.length ≤ 4) (h3 : sortedB m.xs = true) : ok1 m.dat = true := by
  simp [ok1, Mn.dat, h1, h2, h3]
theorem ok1_no1 {m : Mn} (h1 : inB m.c 1 65535 = false) : ok1 m.dat = false := by simp only [ok1, Mn.dat, h1, Bool.false_and]
theorem ok1_no2 {m : Mn} (h2 : 4 < m.xs.length) : ok1 m.dat = false := by
  have e : ¬ m.xs.length ≤ 4 := by omega
  simp [ok1, Mn.dat, e]
theorem ok1_no3 {m : Mn} (h3 : sortedB m.xs = false) : ok1 m.dat = false := by simp only [ok1, Mn.dat, h3, Bool.and_false]

theorem specOk_all {ms : List Mn} (hl : ms.length ≤ 12) (h : ((ms.map Mn.dat).all monoOk && chainB (ms.map Mn.dat)) = true) : polOk (ms.map Mn.dat) = true := by
  rw [polOk, Bool.and_assoc, h, Bool.and_true]
  exact decide_eq_true (by rw [List.length_map]; exact hl)
theorem specOk_many {ms : List Mn} (hl : ¬ ms.length ≤ 12) : polOk (ms.map Mn.dat) = false := by
  rw [polOk, Bool.and_assoc, decide_eq_false (by rw [List.length_map]; exact hl), Bool.false_and]

theorem implPolOk (A : Option Addr) (k : Nat) (ms : List Mn) (w : World) (h : RM 72 3 w A ms) (hs : SzM ms) :
    Calls Try.prog 41 #[.agg #[.slice A ms.length k]] w fun e w' => e = .returned (.bool (polOk (ms.map Mn.dat))) ∧ Ext w w' := by
  have hn := hs.1
  go_enter Try.func41, Try.ntmps41
  go_wp2
  go_loopw [8] (fun i wr => ∃ j : Nat, j ≤ ms.length ∧ i = .int .i64 j ∧ (∀ t, t < j → ∀ m, ms[t]? = some m → OkAt ok1 ms t m) ∧ Ext w wr ∧ wr.cell? ⟨w.heap.size, 0, none⟩ = some (.slice A ms.length k)) (fun i _ => ms.length - (intOf i).toNat)
  case atStart => exact ⟨0, Nat.zero_le _, rfl, fun t ht => absurd ht (by omega), (by repeat (first | with_reducible assumption | with_reducible exact Ext.refl _ | with_reducible apply Ext.drewN | with_reducible apply Ext.drew | with_reducible apply Ext.alloc)), by go_simp⟩
  case round =>
    obtain ⟨j, hj, rfl, hall, hext, hcp⟩ := hrel
    have HA := hid hall
    clear hall
    have hlt2 := World.block_lt_of_cell? wr _ hcp
    simp only at hlt2
    by_cases hlt : j < ms.length
    · obtain ⟨b, o, m, rfl, hb, hm, hc0, hc1, hI⟩ := (h.ext hext).at_ hlt
      have HM := hid hm
      have hsz := hs.at_ hm
      clear hm
      by_cases h1 : inB m.c 1 65535 = true
      · by_cases h2 : m.xs.length ≤ 4
        · have g2 : decide ((4 : Int) < (m.xs.length : Int)) = false := decide_eq_false (by omega)
          by_cases h3 : sortedB m.xs = true
          · have hok := hid (ok1_of (m := m) h1 h2 h3)
            rcases j with _ | q
            · simp only [Nat.zero_mul, Nat.add_zero] at hc0 hc1
              go_wp2
              refine wp_region_over (by kernel_rfl) (by kernel_rfl) ?_
              repeat (go_big_quiet_step ((first | (go_at_call 44; exact calls_over_same (implIn _ _ _ _)) | (go_at_call 58; exact calls_over (isSorted _ _ _ _ ((hI.ext (by repeat (first | with_reducible assumption | with_reducible exact Ext.refl _ | with_reducible apply Ext.drewN | with_reducible apply Ext.drew | with_reducible apply Ext.alloc))).ext (Over.ext _)) hsz)))))
              refine wpQuiet_nil ?_
              rintro _ ⟨⟨wq, hwq⟩, rfl⟩
              go_wp2
              go_roundw
              case rel => exact ⟨1, by omega, by go_num, lt_step HA.out HM.out ⟨hok.out, fun _ h => absurd h (by omega)⟩, Ext.next (by repeat (first | with_reducible assumption | with_reducible exact Ext.refl _ | with_reducible apply Ext.drewN | with_reducible apply Ext.drew | with_reducible apply Ext.alloc)) hwq, keep hwq (by go_simp)⟩
              case measure => simp [intOf]; omega
            · obtain ⟨b', o', m', e, hb', hm', hd0, hd1, hI'⟩ := (h.ext hext).at_ (i := q) (by omega)
              injection e with e
              injection e with e1 e2 _
              subst e1 e2
              have HM' := hid hm'
              have hsz' := hs.at_ hm'
              clear hm' h
              by_cases h4 : aOrd m'.xs m.xs < 0
              · go_wp2
                refine wp_region_over (by kernel_rfl) (by kernel_rfl) ?_
                repeat (go_big_quiet_step ((first | (go_at_call 44; exact calls_over_same (implIn _ _ _ _)) | (go_at_call 58; exact calls_over (isSorted _ _ _ _ ((hI.ext (by repeat (first | with_reducible assumption | with_reducible exact Ext.refl _ | with_reducible apply Ext.drewN | with_reducible apply Ext.drew | with_reducible apply Ext.alloc))).ext (Over.ext _)) hsz)) | (go_at_call 59; exact calls_over (atomsOrder _ _ _ _ _ _ _ ((hI'.ext (by repeat (first | with_reducible assumption | with_reducible exact Ext.refl _ | with_reducible apply Ext.drewN | with_reducible apply Ext.drew | with_reducible apply Ext.alloc))).ext (Over.ext _)) ((hI.ext (by repeat (first | with_reducible assumption | with_reducible exact Ext.refl _ | with_reducible apply Ext.drewN | with_reducible apply Ext.drew | with_reducible apply Ext.alloc))).ext (Over.ext _)) hsz' hsz)))))
                refine wpQuiet_nil ?_
                rintro _ ⟨⟨wq, hwq⟩, rfl⟩
                go_wp2
                go_roundw
                case rel =>
                  refine ⟨q + 2, by omega, by go_num, lt_step HA.out HM.out ⟨hok.out, fun z _ hz => ?_⟩, Ext.next (by repeat (first | with_reducible assumption | with_reducible exact Ext.refl _ | with_reducible apply Ext.drewN | with_reducible apply Ext.drew | with_reducible apply Ext.alloc)) hwq, keep hwq (by go_simp)⟩
                  rw [Nat.add_sub_cancel, HM'.out] at hz
                  injection hz with hz
                  rw [← hz]
                  exact h4
                case measure => simp [intOf]; omega
              · have h4' : 0 ≤ aOrd m'.xs m.xs := by omega
                clear h4
                have HS := hid (implOk_not (okAt_ord (f := ok1) HM'.out HM.out h4'))
                go_wp2
                refine wp_region_over (by kernel_rfl) (by kernel_rfl) ?_
                repeat (go_big_quiet_step ((first | (go_at_call 44; exact calls_over_same (implIn _ _ _ _)) | (go_at_call 58; exact calls_over (isSorted _ _ _ _ ((hI.ext (by repeat (first | with_reducible assumption | with_reducible exact Ext.refl _ | with_reducible apply Ext.drewN | with_reducible apply Ext.drew | with_reducible apply Ext.alloc))).ext (Over.ext _)) hsz)) | (go_at_call 59; exact calls_over (atomsOrder _ _ _ _ _ _ _ ((hI'.ext (by repeat (first | with_reducible assumption | with_reducible exact Ext.refl _ | with_reducible apply Ext.drewN | with_reducible apply Ext.drew | with_reducible apply Ext.alloc))).ext (Over.ext _)) ((hI.ext (by repeat (first | with_reducible assumption | with_reducible exact Ext.refl _ | with_reducible apply Ext.drewN | with_reducible apply Ext.drew | with_reducible apply Ext.alloc))).ext (Over.ext _)) hsz' hsz)))))
                refine wpQuiet_nil ?_
                rintro _ ⟨⟨wq, hwq⟩, rfl⟩
                go_wp2
                go_ret
                exact ⟨ret_bool HS.out.symm, Ext.next (by repeat (first | with_reducible assumption | with_reducible exact Ext.refl _ | with_reducible apply Ext.drewN | with_reducible apply Ext.drew | with_reducible apply Ext.alloc)) hwq⟩
          · have h3' : sortedB m.xs = false := by simpa using h3
            clear h3
            have HS := hid (implOk_not (okAt_not (f := ok1) HM.out (ok1_no3 h3')))
            go_wp2
            refine wp_region_over (by kernel_rfl) (by kernel_rfl) ?_
            repeat (go_big_quiet_step ((first | (go_at_call 44; exact calls_over_same (implIn _ _ _ _)) | (go_at_call 58; exact calls_over (isSorted _ _ _ _ ((hI.ext (by repeat (first | with_reducible assumption | with_reducible exact Ext.refl _ | with_reducible apply Ext.drewN | with_reducible apply Ext.drew | with_reducible apply Ext.alloc))).ext (Over.ext _)) hsz)))))
            refine wpQuiet_nil ?_
            rintro _ ⟨⟨wq, hwq⟩, rfl⟩
            go_wp2
            go_ret
            exact ⟨ret_bool HS.out.symm, Ext.next (by repeat (first | with_reducible assumption | with_reducible exact Ext.refl _ | with_reducible apply Ext.drewN | with_reducible apply Ext.drew | with_reducible apply Ext.alloc)) hwq⟩
        · have HS := hid (implOk_not (okAt_not (f := ok1) HM.out (ok1_no2 (by omega))))
          have g2 : decide ((4 : Int) < (m.xs.length : Int)) = true := decide_eq_true (by omega)
          go_wp2
          refine wp_region_over (by kernel_rfl) (by kernel_rfl) ?_
          repeat (go_big_quiet_step ((first | (go_at_call 44; exact calls_over_same (implIn _ _ _ _)) | (go_at_call 58; exact calls_over (isSorted _ _ _ _ ((hI.ext (by repeat (first | with_reducible assumption | with_reducible exact Ext.refl _ | with_reducible apply Ext.drewN | with_reducible apply Ext.drew | with_reducible apply Ext.alloc))).ext (Over.ext _)) hsz)))))
          refine wpQuiet_nil ?_
          rintro _ ⟨⟨wq, hwq⟩, rfl⟩
          go_wp2
          go_ret
          exact ⟨ret_bool HS.out.symm, Ext.next (by repeat (first | with_reducible assumption | with_reducible exact Ext.refl _ | with_reducible apply Ext.drewN | with_reducible apply Ext.drew | with_reducible apply Ext.alloc)) hwq⟩
      · have h1' : inB m.c 1 65535 = false := by simpa using h1
        clear h1
        have HS := hid (implOk_not (okAt_not (f := ok1) HM.out (ok1_no1 h1')))
        go_wp2
        refine wp_region_over (by kernel_rfl) (by kernel_rfl) ?_
        repeat (go_big_quiet_step ((first | (go_at_call 44; exact calls_over_same (implIn _ _ _ _)) | (go_at_call 58; exact calls_over (isSorted _ _ _ _ ((hI.ext (by repeat (first | with_reducible assumption | with_reducible exact Ext.refl _ | with_reducible apply Ext.drewN | with_reducible apply Ext.drew | with_reducible apply Ext.alloc))).ext (Over.ext _)) hsz)))))
        refine wpQuiet_nil ?_
        rintro _ ⟨⟨wq, hwq⟩, rfl⟩
        go_wp2
        go_ret
        exact ⟨ret_bool HS.out.symm, Ext.next (by repeat (first | with_reducible assumption | with_reducible exact Ext.refl _ | with_reducible apply Ext.drewN | with_reducible apply Ext.drew | with_reducible apply Ext.alloc)) hwq⟩
    · have HS := hid (implOk_rest (okAt_all (f := ok1) fun t ht => HA.out t (by omega)))
      have HL := hid (show (ms.map Mn.dat).length = ms.length by simp)
      by_cases hl : ms.length ≤ 12
      · by_cases hu : polUnder 200 (ms.map Mn.dat) = true
        · go_wp2_with fail
          refine (implPolUnder _ _ _ _ _ (h.ext hext) hs).mono ?_
          rintro e w1 ⟨rfl, hw1⟩
          have hcp1 := keep hw1 hcp
          go_wp2_with fail
          refine (containsNeg _ _ _ _ (h.ext (hext.next hw1)) hs).mono ?_
          rintro e w2 ⟨rfl, hw2⟩
          go_wp2
          go_ret
          exact ⟨ret_bool (by rw [HS.out, HL.out, hu, decide_eq_true hl, Bool.true_and, Bool.true_and, List.any_map]), (hext.next hw1).next hw2⟩
        · have hu' : polUnder 200 (ms.map Mn.dat) = false := by simpa using hu
          clear hu
          go_wp2_with fail
          refine (implPolUnder _ _ _ _ _ (h.ext hext) hs).mono ?_
          rintro e w1 ⟨rfl, hw1⟩
          have hcp1 := keep hw1 hcp
          go_wp2
          go_ret
          exact ⟨ret_bool (by rw [HS.out, HL.out, hu', Bool.and_false, Bool.false_and]), hext.next hw1⟩
      · go_wp2
        go_ret
        exact ⟨ret_bool (by rw [HS.out, HL.out, decide_eq_false hl, Bool.false_and, Bool.false_and]), hext⟩

theorem specPolOk (A : Option Addr) (k : Nat) (ms : List Mn) (w : World) (h : RM 72 3 w A ms) (hs : SzM ms) :
    Calls Try.prog 36 #[.agg #[.slice A ms.length k]] w fun e w' => e = .returned (.bool (polOk (ms.map Mn.dat))) ∧ Ext w w' := by
  have hn := hs.1
  by_cases hl : ms.length ≤ 12
  · go_enter Try.func36, Try.ntmps36
    go_wp2
    go_loopw [3] (fun i wr => ∃ j : Nat, j ≤ ms.length ∧ i = .int .i64 j ∧ (∀ t, t < j → ∀ m, ms[t]? = some m → OkAt monoOk ms t m) ∧ Ext w wr ∧ wr.cell? ⟨w.heap.size, 0, none⟩ = some (.slice A ms.length k)) (fun i _ => ms.length - (intOf i).toNat)
    case atStart => exact ⟨0, Nat.zero_le _, rfl, fun t ht => absurd ht (by omega), (by repeat (first | with_reducible assumption | with_reducible exact Ext.refl _ | with_reducible apply Ext.drewN | with_reducible apply Ext.drew | with_reducible apply Ext.alloc)), by go_simp⟩
    case round =>
      obtain ⟨j, hj, rfl, hall, hext, hcp⟩ := hrel
      have HA := hid hall
      clear hall
      have hlt2 := World.block_lt_of_cell? wr _ hcp
      simp only at hlt2
      by_cases hlt : j < ms.length
      · obtain ⟨b, o, m, rfl, hb, hm, hc0, hc1, hI⟩ := (h.ext hext).at_ hlt
        have HM := hid hm
        have hsz := hs.at_ hm
        clear hm
        by_cases h1 : monoOk (m.c, m.xs) = true
        · rcases j with _ | q
          · simp only [Nat.zero_mul, Nat.add_zero] at hc0 hc1
            go_wp2
            refine wp_region_over (by kernel_rfl) (by kernel_rfl) ?_
            repeat (go_big_quiet_step ((go_at_call 55; exact calls_over (specMono _ _ _ _ _ ((hI.ext (by repeat (first | with_reducible assumption | with_reducible exact Ext.refl _ | with_reducible apply Ext.drewN | with_reducible apply Ext.drew | with_reducible apply Ext.alloc))).ext (Over.ext _)) hsz))))
            refine wpQuiet_nil ?_
            rintro _ ⟨⟨wq, hwq⟩, rfl⟩
            go_wp2
            go_roundw
            case rel => exact ⟨1, by omega, by go_num, lt_step HA.out HM.out ⟨h1, fun _ h => absurd h (by omega)⟩, Ext.next (by repeat (first | with_reducible assumption | with_reducible exact Ext.refl _ | with_reducible apply Ext.drewN | with_reducible apply Ext.drew | with_reducible apply Ext.alloc)) hwq, keep hwq hcp⟩
            case measure => simp [intOf]; omega
          · obtain ⟨b', o', m', e, hb', hm', hd0, hd1, hI'⟩ := (h.ext hext).at_ (i := q) (by omega)
            injection e with e
            injection e with e1 e2 _
            subst e1 e2
            have HM' := hid hm'
            have hsz' := hs.at_ hm'
            clear hm' h
            by_cases h4 : aOrd m'.xs m.xs < 0
            · go_wp2
              refine wp_region_over (by kernel_rfl) (by kernel_rfl) ?_
              repeat (go_big_quiet_step ((first | (go_at_call 55; exact calls_over (specMono _ _ _ _ _ ((hI.ext (by repeat (first | with_reducible assumption | with_reducible exact Ext.refl _ | with_reducible apply Ext.drewN | with_reducible apply Ext.drew | with_reducible apply Ext.alloc))).ext (Over.ext _)) hsz)) | (go_at_call 56; exact calls_over (specOrder _ _ _ _ _ _ _ ((hI'.ext (by repeat (first | with_reducible assumption | with_reducible exact Ext.refl _ | with_reducible apply Ext.drewN | with_reducible apply Ext.drew | with_reducible apply Ext.alloc))).ext (Over.ext _)) ((hI.ext (by repeat (first | with_reducible assumption | with_reducible exact Ext.refl _ | with_reducible apply Ext.drewN | with_reducible apply Ext.drew | with_reducible apply Ext.alloc))).ext (Over.ext _)) hsz' hsz)))))
              refine wpQuiet_nil ?_
              rintro _ ⟨⟨wq, hwq⟩, rfl⟩
              go_wp2
              go_roundw
              case rel =>
                refine ⟨q + 2, by omega, by go_num, lt_step HA.out HM.out ⟨h1, fun z _ hz => ?_⟩, Ext.next (by repeat (first | with_reducible assumption | with_reducible exact Ext.refl _ | with_reducible apply Ext.drewN | with_reducible apply Ext.drew | with_reducible apply Ext.alloc)) hwq, keep hwq hcp⟩
                rw [Nat.add_sub_cancel, HM'.out] at hz
                injection hz with hz
                rw [← hz]
                exact h4
              case measure => simp [intOf]; omega
            · have h4' : 0 ≤ aOrd m'.xs m.xs := by omega
              clear h4
              have HS := hid (specOk_not (okAt_ord (f := monoOk) HM'.out HM.out h4'))
              go_wp2
              refine wp_region_over (by kernel_rfl) (by kernel_rfl) ?_
              repeat (go_big_quiet_step ((first | (go_at_call 55; exact calls_over (specMono _ _ _ _ _ ((hI.ext (by repeat (first | with_reducible assumption | with_reducible exact Ext.refl _ | with_reducible apply Ext.drewN | with_reducible apply Ext.drew | with_reducible apply Ext.alloc))).ext (Over.ext _)) hsz)) | (go_at_call 56; exact calls_over (specOrder _ _ _ _ _ _ _ ((hI'.ext (by repeat (first | with_reducible assumption | with_reducible exact Ext.refl _ | with_reducible apply Ext.drewN | with_reducible apply Ext.drew | with_reducible apply Ext.alloc))).ext (Over.ext _)) ((hI.ext (by repeat (first | with_reducible assumption | with_reducible exact Ext.refl _ | with_reducible apply Ext.drewN | with_reducible apply Ext.drew | with_reducible apply Ext.alloc))).ext (Over.ext _)) hsz' hsz)))))
              refine wpQuiet_nil ?_
              rintro _ ⟨⟨wq, hwq⟩, rfl⟩
              go_wp2
              go_ret
              exact ⟨ret_bool HS.out.symm, Ext.next (by repeat (first | with_reducible assumption | with_reducible exact Ext.refl _ | with_reducible apply Ext.drewN | with_reducible apply Ext.drew | with_reducible apply Ext.alloc)) hwq⟩
        · have h1' : monoOk (m.c, m.xs) = false := by simpa using h1
          clear h1
          have HS := hid (specOk_not (okAt_not (f := monoOk) HM.out h1'))
          go_wp2
          refine wp_region_over (by kernel_rfl) (by kernel_rfl) ?_
          repeat (go_big_quiet_step ((go_at_call 55; exact calls_over (specMono _ _ _ _ _ ((hI.ext (by repeat (first | with_reducible assumption | with_reducible exact Ext.refl _ | with_reducible apply Ext.drewN | with_reducible apply Ext.drew | with_reducible apply Ext.alloc))).ext (Over.ext _)) hsz))))
          refine wpQuiet_nil ?_
          rintro _ ⟨⟨wq, hwq⟩, rfl⟩
          go_wp2
          go_ret
          exact ⟨ret_bool HS.out.symm, Ext.next (by repeat (first | with_reducible assumption | with_reducible exact Ext.refl _ | with_reducible apply Ext.drewN | with_reducible apply Ext.drew | with_reducible apply Ext.alloc)) hwq⟩
      · have HS := hid (specOk_all hl (okAt_all (f := monoOk) fun t ht => HA.out t (by omega)))
        go_wp2
        go_ret
        exact ⟨ret_bool HS.out.symm, hext⟩
  · have HS := hid (specOk_many hl)
    go_enter Try.func36, Try.ntmps36
    go_wp2
    go_ret
    exact ⟨ret_bool HS.out.symm, (by repeat (first | with_reducible assumption | with_reducible exact Ext.refl _ | with_reducible apply Ext.drewN | with_reducible apply Ext.drew | with_reducible apply Ext.alloc))⟩
end Go.Proofs.Ytkdggfkigjpbfaa
