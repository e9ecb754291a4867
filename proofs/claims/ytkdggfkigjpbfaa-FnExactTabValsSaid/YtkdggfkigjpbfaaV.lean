/- Contracts of what tells what a sum comes to. Conditions: lengths that a machine can hold. -/
import Derived.Test.YtkdggfkigjpbfaaN
namespace Go.Proofs.Ytkdggfkigjpbfaa
open Go Go.RowKit
set_option linter.unusedVariables false
set_option linter.unusedSimpArgs false

/-- The word of an atom; 0 beyond them. -/
def valAt (vs : List Int) (k : Int) : Int := vs.getD k.toNat 0
def mulAt (vs : List Int) (c k : Int) : Int := wrap (c * valAt vs k)
def monoEval (vs : List Int) (m : Int × List Int) : Int := m.2.foldl (mulAt vs) m.1
def addAt (vs : List Int) (n : Int) (m : Int × List Int) : Int := wrap (n + monoEval vs m)
def polRaw (vs : List Int) (p : List (Int × List Int)) : Int := p.foldl (addAt vs) 0
def polEval (p : List (Int × List Int)) (vs : List Int) : Int := if polOk p && wordsB vs then polRaw vs p else 0

theorem fold_take {α β : Type} {f : β → α → β} {xs : List α} {j : Nat} {x : α} (a : β) (hx : xs[j]? = some x) : (xs.take (j + 1)).foldl f a = f ((xs.take j).foldl f a) x := by
  rw [List.take_add_one, hx, List.foldl_append]
  rfl
theorem fold_dat {β : Type} {f : β → Int × List Int → β} {ms : List Mn} {j : Nat} {m : Mn} (a : β) (hm : ms[j]? = some m) : ((ms.map Mn.dat).take (j + 1)).foldl f a = f (((ms.map Mn.dat).take j).foldl f a) m.dat :=
  fold_take a (dat_of hm)
theorem valAt_in {vs : List Int} {n : Nat} {v : Int} (h : vs[n]? = some v) : valAt vs n = v := by
  unfold valAt
  rw [List.getD_eq_getElem?_getD, Int.toNat_natCast, h]
  rfl
theorem valAt_out {vs : List Int} {n : Nat} (h : vs.length ≤ n) : valAt vs n = 0 := by
  unfold valAt
  rw [List.getD_eq_getElem?_getD, Int.toNat_natCast, List.getElem?_eq_none h]
  rfl
theorem take_all {α : Type} {xs : List α} {j : Nat} (h : xs.length ≤ j) : xs.take j = xs := List.take_of_length_le h
theorem ok_mono {ms : List Mn} (h : polOk (ms.map Mn.dat) = true) {j : Nat} {m : Mn} (hm : ms[j]? = some m) : monoOk m.dat = true := by
  unfold polOk at h
  simp only [Bool.and_eq_true] at h
  exact List.all_eq_true.1 (by first | exact h.1.2 | exact h.2.1 | exact h.1.1) _ (List.mem_of_getElem? (dat_of hm))
theorem ok_atom {m : Mn} (h : monoOk m.dat = true) {q : Nat} {x : Int} (hx : m.xs[q]? = some x) : 0 ≤ x ∧ x ≤ 199 := by
  have : inB x 0 199 = true := by
    rcases hb : inB x 0 199 with _ | _
    · rw [monoOk_not_at (m := m.dat) hx hb] at h
      cases h
    · rfl
  simpa [inB] using this

set_option maxRecDepth 20000 in
theorem implEval (A A' : Option Addr) (k k' : Nat) (ms : List Mn) (vs : List Int) (w : World) (h : RM 72 3 w A ms) (hs : SzM ms) (h' : RI 3 w A' vs) (hn' : vs.length < 4611686018427387904)
    (hok : polOk (ms.map Mn.dat) = true) :
    Calls Try.prog 31 #[.agg #[.slice A ms.length k], .slice A' vs.length k'] w fun e w' => e = .returned (.int .i64 (polRaw vs (ms.map Mn.dat))) ∧ Ext w w' := by
  have hn := hs.1
  have HOK := hid hok
  clear hok
  go_enter Try.func31, Try.ntmps31
  go_wp2
  go_loopw [5, 15] (fun v i wr => ∃ j : Nat, j ≤ ms.length ∧ i = .int .i64 j ∧ v = .int .i64 (((ms.map Mn.dat).take j).foldl (addAt vs) 0) ∧ Ext w wr) (fun _ i _ => ms.length - (intOf i).toNat)
  case atStart => exact ⟨0, Nat.zero_le _, rfl, rfl, (by repeat (first | with_reducible assumption | with_reducible exact Ext.refl _ | with_reducible apply Ext.drewN | with_reducible apply Ext.drew | with_reducible apply Ext.alloc))⟩
  case round =>
    obtain ⟨j, hj, rfl, rfl, hext⟩ := hrel
    by_cases hlt : j < ms.length
    · obtain ⟨b, o, ⟨mc, mA, mk, mx⟩, rfl, hb, hm, hc0, hc1, hI⟩ := (h.ext hext).at_ hlt
      have HT := hid (fold_dat (f := addAt vs) 0 hm)
      have HO := hid (ok_mono HOK.out hm)
      have hsz : mx.length < 4611686018427387904 := hs.at_ hm
      simp only at hc0 hc1 hI
      have hv := h'.ext hext
      clear hm h h'
      generalize hS : ((ms.map Mn.dat).take j).foldl (addAt vs) 0 = S at *
      have HS := hid hS
      clear hS
      go_wp2
      go_loop [8, 24] (fun v i => ∃ q : Nat, q ≤ mx.length ∧ i = .int .i64 q ∧ v = .int .i64 ((mx.take q).foldl (mulAt vs) mc)) (fun _ i => mx.length - (intOf i).toNat)
      case atStart => exact ⟨0, Nat.zero_le _, rfl, rfl⟩
      case round =>
        obtain ⟨q, hq, rfl, rfl⟩ := hrel
        by_cases hlq : q < mx.length
        · obtain ⟨b', o', x, hA, hb', hx, hcell⟩ := hI.at_ hlq
          have hat := ok_atom HO.out hx
          obtain ⟨xn, rfl⟩ : ∃ xn : Nat, x = xn := ⟨x.toNat, by omega⟩
          have HF := hid (fold_take (f := mulAt vs) mc hx)
          subst hA
          clear hx hI
          generalize hU : (mx.take q).foldl (mulAt vs) mc = U at *
          clear hU
          by_cases hw : xn < vs.length
          · obtain ⟨b2, o2, v, rfl, hb2, hvx, hcv⟩ := hv.at_ hw
            have HV := hid (valAt_in hvx)
            clear hvx hv
            go_wp2_with (go_at_call 52; refine (implWrdWrap _ _).mono ?_; rintro e w' ⟨rfl, rfl⟩)
            go_round
            case rel => exact ⟨q + 1, by omega, by go_num, by rw [HF.out, mulAt, HV.out]; simp only [wrap_wrap64]⟩
            case measure => simp [intOf]; omega
          · have HV := hid (valAt_out (vs := vs) (n := xn) (by omega))
            clear hv
            go_wp2_with (go_at_call 52; refine (implWrdWrap _ _).mono ?_; rintro e w' ⟨rfl, rfl⟩)
            go_round
            case rel => exact ⟨q + 1, by omega, by go_num, by rw [HF.out, mulAt, HV.out]; simp⟩
            case measure => simp [intOf]; omega
        · have HE := hid (take_all (xs := mx) (j := q) (by omega))
          go_wp2_with (go_at_call 52; refine (implWrdWrap _ _).mono ?_; rintro e w' ⟨rfl, rfl⟩)
          go_roundw
          case rel => exact ⟨j + 1, by omega, by go_num, by rw [HT.out, HE.out, addAt, monoEval]; simp only [wrap_wrap64]; rfl, (by repeat (first | with_reducible assumption | with_reducible exact Ext.refl _ | with_reducible apply Ext.drewN | with_reducible apply Ext.drew | with_reducible apply Ext.alloc))⟩
          case measure => simp [intOf]; omega
    · have HE := hid (take_all (xs := ms.map Mn.dat) (j := j) (by simp; omega))
      go_wp2
      go_ret
      exact ⟨ret_int (by rw [HE.out]; rfl), hext⟩



theorem specPolEval (A A' : Option Addr) (k k' : Nat) (ms : List Mn) (vs : List Int) (w : World) (h : RM 72 3 w A ms) (hs : SzM ms) (h' : RI 3 w A' vs) (hn' : vs.length < 4611686018427387904) :
    Calls Try.prog 27 #[.agg #[.slice A ms.length k], .slice A' vs.length k'] w fun e w' => e = .returned (.int .i64 (polEval (ms.map Mn.dat) vs)) ∧ Ext w w' := by
  have hn := hs.1
  go_enter Try.func27, Try.ntmps27
  go_wp2_with fail
  refine (specPolOk _ _ _ _ (h.ext (by repeat (first | with_reducible assumption | with_reducible exact Ext.refl _ | with_reducible apply Ext.drewN | with_reducible apply Ext.drew | with_reducible apply Ext.alloc))) hs).mono ?_
  rintro e w1 ⟨rfl, hw1⟩
  have c1 : w1.cell? ⟨w.heap.size, 0, none⟩ = some (.slice A ms.length k) := keep hw1 (by go_simp)
  have hl1 := World.block_lt_of_cell? w1 _ c1
  simp only at hl1
  cases hp : polOk (ms.map Mn.dat)
  · have HZ := hid (show polEval (ms.map Mn.dat) vs = 0 by unfold polEval; rw [hp]; rfl)
    go_wp2
    go_ret
    exact ⟨ret_int HZ.out.symm, (by repeat (first | with_reducible assumption | with_reducible exact Ext.refl _ | with_reducible apply Ext.drewN | with_reducible apply Ext.drew | with_reducible apply Ext.alloc | with_reducible refine Ext.set ?_ (by first | (simp; done) | (simp; omega)) _ | with_reducible refine Ext.next ?_ (by with_reducible assumption)))⟩
  · have HP := hid hp
    clear hp
    cases hq : wordsB vs
    · have HZ := hid (show polEval (ms.map Mn.dat) vs = 0 by unfold polEval; rw [hq, Bool.and_false]; rfl)
      have HQ := hid hq
      clear hq
      go_wp2_with (go_at_call 24; refine (specL1Words _ _ _ _ (h'.ext (by repeat (first | with_reducible assumption | with_reducible exact Ext.refl _ | with_reducible apply Ext.drewN | with_reducible apply Ext.drew | with_reducible apply Ext.alloc | with_reducible refine Ext.set ?_ (by first | (simp; done) | (simp; omega)) _ | with_reducible refine Ext.next ?_ (by with_reducible assumption)))) hn').mono ?_; rintro e w' ⟨rfl, rfl⟩; rw [HQ.out])
      go_ret
      exact ⟨ret_int HZ.out.symm, (by repeat (first | with_reducible assumption | with_reducible exact Ext.refl _ | with_reducible apply Ext.drewN | with_reducible apply Ext.drew | with_reducible apply Ext.alloc | with_reducible refine Ext.set ?_ (by first | (simp; done) | (simp; omega)) _ | with_reducible refine Ext.next ?_ (by with_reducible assumption)))⟩
    · have HZ := hid (show polEval (ms.map Mn.dat) vs = polRaw vs (ms.map Mn.dat) by unfold polEval; rw [hq, HP.out]; rfl)
      have HQ := hid hq
      clear hq
      go_wp2_with (go_at_call 24; refine (specL1Words _ _ _ _ (h'.ext (by repeat (first | with_reducible assumption | with_reducible exact Ext.refl _ | with_reducible apply Ext.drewN | with_reducible apply Ext.drew | with_reducible apply Ext.alloc | with_reducible refine Ext.set ?_ (by first | (simp; done) | (simp; omega)) _ | with_reducible refine Ext.next ?_ (by with_reducible assumption)))) hn').mono ?_; rintro e w' ⟨rfl, rfl⟩; rw [HQ.out])
      have h1 := h.ext (show Ext w w1 from (by repeat (first | with_reducible assumption | with_reducible exact Ext.refl _ | with_reducible apply Ext.drewN | with_reducible apply Ext.drew | with_reducible apply Ext.alloc | with_reducible refine Ext.set ?_ (by first | (simp; done) | (simp; omega)) _ | with_reducible refine Ext.next ?_ (by with_reducible assumption))))
      have h2 := h'.ext (show Ext w w1 from (by repeat (first | with_reducible assumption | with_reducible exact Ext.refl _ | with_reducible apply Ext.drewN | with_reducible apply Ext.drew | with_reducible apply Ext.alloc | with_reducible refine Ext.set ?_ (by first | (simp; done) | (simp; omega)) _ | with_reducible refine Ext.next ?_ (by with_reducible assumption))))
      have hx1 : Ext w w1 := (by repeat (first | with_reducible assumption | with_reducible exact Ext.refl _ | with_reducible apply Ext.drewN | with_reducible apply Ext.drew | with_reducible apply Ext.alloc | with_reducible refine Ext.set ?_ (by first | (simp; done) | (simp; omega)) _ | with_reducible refine Ext.next ?_ (by with_reducible assumption)))
      clear h h'
      go_loop [5, 6] (fun v i => ∃ j : Nat, j ≤ ms.length ∧ i = .int .i64 j ∧ v = .int .i64 (((ms.map Mn.dat).take j).foldl (addAt vs) 0)) (fun _ i => ms.length - (intOf i).toNat)
      case atStart => exact ⟨0, Nat.zero_le _, rfl, rfl⟩
      case round =>
        obtain ⟨j, hj, rfl, rfl⟩ := hrel
        by_cases hlt : j < ms.length
        · obtain ⟨b, o, m, rfl, hb, hm, hc0, hc1, hI⟩ := h1.at_ hlt
          have HT := hid (fold_dat (f := addAt vs) 0 hm)
          have HO := hid (ok_mono HP.out hm)
          have hsz := hs.at_ hm
          clear hm h1
          generalize hS : ((ms.map Mn.dat).take j).foldl (addAt vs) 0 = S at *
          have HS := hid hS
          clear hS
          go_wp2
          go_loop [7, 8] (fun v i => ∃ q : Nat, q ≤ m.xs.length ∧ i = .int .i64 q ∧ v = .int .i64 ((m.xs.take q).foldl (mulAt vs) m.c)) (fun _ i => m.xs.length - (intOf i).toNat)
          case atStart => exact ⟨0, Nat.zero_le _, rfl, rfl⟩
          case round =>
            obtain ⟨q, hq, rfl, rfl⟩ := hrel
            by_cases hlq : q < m.xs.length
            · obtain ⟨b', o', x, hA, hb', hx, hcell⟩ := hI.at_ hlq
              have hat := ok_atom HO.out hx
              obtain ⟨xn, rfl⟩ : ∃ xn : Nat, x = xn := ⟨x.toNat, by omega⟩
              have HF := hid (fold_take (f := mulAt vs) m.c hx)
              rw [hA] at hc1
              clear hx hI hA
              generalize hU : (m.xs.take q).foldl (mulAt vs) m.c = U at *
              clear hU
              by_cases hw : xn < vs.length
              · obtain ⟨b2, o2, v, rfl, hb2, hvx, hcv⟩ := h2.at_ hw
                have HV := hid (valAt_in hvx)
                clear hvx h2
                go_wp2_with (go_at_call 50; refine (specWrdWrap _ _).mono ?_; rintro e w' ⟨rfl, rfl⟩)
                go_round
                case rel => exact ⟨q + 1, by omega, by go_num, by rw [HF.out, mulAt, HV.out]; simp only [wrap_wrap64]⟩
                case measure => simp [intOf]; omega
              · have HV := hid (valAt_out (vs := vs) (n := xn) (by omega))
                clear h2
                go_wp2_with (go_at_call 50; refine (specWrdWrap _ _).mono ?_; rintro e w' ⟨rfl, rfl⟩)
                go_round
                case rel => exact ⟨q + 1, by omega, by go_num, by rw [HF.out, mulAt, HV.out]; simp⟩
                case measure => simp [intOf]; omega
            · have HE := hid (take_all (xs := m.xs) (j := q) (by omega))
              go_wp2_with (go_at_call 50; refine (specWrdWrap _ _).mono ?_; rintro e w' ⟨rfl, rfl⟩)
              go_round
              case rel => exact ⟨j + 1, by omega, by go_num, by rw [HT.out, HE.out, addAt, monoEval]; simp only [wrap_wrap64]; rfl⟩
              case measure => simp [intOf]; omega
        · have HE := hid (take_all (xs := ms.map Mn.dat) (j := j) (by simp; omega))
          go_wp2
          go_ret
          exact ⟨ret_int (by rw [HZ.out, HE.out]; rfl), hx1⟩
end Go.Proofs.Ytkdggfkigjpbfaa
