/- Whether a table is well made: contracts of TabOk of both sides. Conditions: lengths that a machine can hold. -/
import Derived.Test.YtkdggfkigjpbfaaTG
namespace Go.Proofs.Ytkdggfkigjpbfaa
open Go Go.RowKit
set_option linter.unusedVariables false
set_option linter.unusedSimpArgs false

def okAt (d : List Atm) (k : Nat) : Bool := match d[k]? with | none => true | some a => atomOk k a && !((d.take k).any fun b => decide (b = a))
def tabOk (d : List Atm) : Bool := decide (d.length ≤ 200) && (List.range d.length).all (okAt d)
theorem tabOk_long {d : List Atm} (h : 200 < d.length) : tabOk d = false := by unfold tabOk; rw [decide_eq_false (by omega)]; rfl
theorem tabOk_at {d : List Atm} {k : Nat} (hk : k < d.length) (h : okAt d k = false) : tabOk d = false := by
  unfold tabOk
  rw [List.all_eq_false.2 ⟨k, List.mem_range.2 hk, by simp [h]⟩, Bool.and_false]
theorem tabOk_bad {d : List Atm} {k : Nat} {a : Atm} (ha : d[k]? = some a) (h : atomOk k a = false) : tabOk d = false := by
  obtain ⟨hk, _⟩ := List.getElem?_eq_some_iff.1 ha
  refine tabOk_at hk ?_
  unfold okAt
  rw [ha]
  simp only [h, Bool.false_and]
theorem tabOk_twice {d : List Atm} {j k : Nat} {a : Atm} (ha : d[k]? = some a) (hj : j < k) (hb : d[j]? = some a) : tabOk d = false := by
  obtain ⟨hk, _⟩ := List.getElem?_eq_some_iff.1 ha
  refine tabOk_at hk ?_
  unfold okAt
  rw [ha]
  have : ((d.take k).any fun b => decide (b = a)) = true := List.any_eq_true.2 ⟨a, List.mem_of_getElem? (i := j) (by rw [List.getElem?_take, if_pos hj]; exact hb), by simp⟩
  simp only [this, Bool.not_true, Bool.and_false]
def GoodTo (d : List Atm) (n : Nat) : Prop := ∀ k a, k < n → d[k]? = some a → atomOk k a = true ∧ ∀ j, j < k → d[j]? ≠ some a
theorem tabOk_all {d : List Atm} (h : GoodTo d d.length) : tabOk d = decide (d.length ≤ 200) := by
  have : (List.range d.length).all (okAt d) = true := by
    rw [List.all_eq_true]
    intro k hk
    have hk := List.mem_range.1 hk
    have hd : d[k]? = some d[k] := List.getElem?_eq_getElem hk
    obtain ⟨h1, h2⟩ := h k _ hk hd
    unfold okAt
    rw [hd]
    simp only [h1, Bool.true_and]
    rw [Bool.not_eq_true', List.any_eq_false]
    intro b hb
    obtain ⟨j, hj, rfl⟩ := List.getElem_of_mem hb
    rw [List.length_take] at hj
    have hjk : j < k := by omega
    rw [List.getElem_take]
    intro e
    have e := of_decide_eq_true e
    exact h2 j hjk (by rw [← e]; exact List.getElem?_eq_getElem (by omega))
  unfold tabOk
  rw [this, Bool.and_true]
theorem GoodTo.zero (d : List Atm) : GoodTo d 0 := fun k a hk => absurd hk (by omega)
theorem GoodTo.step {d : List Atm} {n : Nat} {a : Atm} (h : GoodTo d n) (ha : d[n]? = some a) (h1 : atomOk n a = true) (h2 : ∀ j, j < n → d[j]? ≠ some a) : GoodTo d (n + 1) := fun k c hk hc => by
  rcases Nat.lt_or_ge k n with hlt | hge
  · exact h k c hlt hc
  · obtain rfl : k = n := by omega
    rw [ha] at hc
    injection hc with hc
    subst hc
    exact ⟨h1, h2⟩
theorem datT {ts : List Tn} {j : Nat} {m : Tn} (h : ts[j]? = some m) : (ts.map Tn.dat)[j]? = some m.dat := by rw [List.getElem?_map, h]; rfl

/-! ### the program's search -/
theorem findC (a x : Tn) (g : Nat) (w : World) (c0 : w.cell? ⟨g, 0, none⟩ = some (.int .i64 a.kind)) (c1 : w.cell? ⟨g, 1, none⟩ = some (.int .i64 a.n)) (c2 : w.cell? ⟨g, 2, none⟩ = some (.slice a.A1 a.xs.length a.k1)) (c3 : w.cell? ⟨g, 3, none⟩ = some (.slice a.A2 a.ys.length a.k2))
    (ha : RM 72 3 w a.A1 a.xs ∧ RM 72 3 w a.A2 a.ys) (hx : RM 72 3 w x.A1 x.xs ∧ RM 72 3 w x.A2 x.ys) (sa : SzM a.xs ∧ SzM a.ys) (sx : SzM x.xs ∧ SzM x.ys) {v : Bool} (hv : decide (a.dat = x.dat) = v) :
    Calls Try.prog 46 #[x.val, .pointer (some ⟨g, 0, none⟩)] w fun e w' => e = .returned (.bool v) ∧ Ext w w' := by
  have hg := World.block_lt_of_cell? _ _ c0
  simp only at hg
  subst hv
  unfold Tn.val
  go_enter Try.func46, Try.ntmps46
  go_wp2_with fail
  refine (implAtmSame a x _ ⟨ha.1.ext (by repeat (first | with_reducible assumption | with_reducible exact Ext.refl _ | with_reducible apply Ext.drewN | with_reducible apply Ext.drew | with_reducible apply Ext.alloc | with_reducible refine Ext.set ?_ (by first | (simp; done) | (simp; omega)) _ | with_reducible refine Ext.next ?_ (by with_reducible assumption))), ha.2.ext (by repeat (first | with_reducible assumption | with_reducible exact Ext.refl _ | with_reducible apply Ext.drewN | with_reducible apply Ext.drew | with_reducible apply Ext.alloc | with_reducible refine Ext.set ?_ (by first | (simp; done) | (simp; omega)) _ | with_reducible refine Ext.next ?_ (by with_reducible assumption)))⟩ ⟨hx.1.ext (by repeat (first | with_reducible assumption | with_reducible exact Ext.refl _ | with_reducible apply Ext.drewN | with_reducible apply Ext.drew | with_reducible apply Ext.alloc | with_reducible refine Ext.set ?_ (by first | (simp; done) | (simp; omega)) _ | with_reducible refine Ext.next ?_ (by with_reducible assumption))), hx.2.ext (by repeat (first | with_reducible assumption | with_reducible exact Ext.refl _ | with_reducible apply Ext.drewN | with_reducible apply Ext.drew | with_reducible apply Ext.alloc | with_reducible refine Ext.set ?_ (by first | (simp; done) | (simp; omega)) _ | with_reducible refine Ext.next ?_ (by with_reducible assumption)))⟩ sa sx).mono ?_
  rintro e w1 ⟨rfl, hw1⟩
  go_wp2
  go_ret
  exact ⟨rfl, (by repeat (first | with_reducible assumption | with_reducible exact Ext.refl _ | with_reducible apply Ext.drewN | with_reducible apply Ext.drew | with_reducible apply Ext.alloc | with_reducible refine Ext.set ?_ (by first | (simp; done) | (simp; omega)) _ | with_reducible refine Ext.next ?_ (by with_reducible assumption)))⟩

set_option maxHeartbeats 1000000 in
theorem indexAtom (A : Option Addr) (k : Nat) (ts : List Tn) (a : Tn) (g : Nat) (w : World) (h : RT 46 72 3 w A ts) (hs : SzT ts) (c0 : w.cell? ⟨g, 0, none⟩ = some (.int .i64 a.kind)) (c1 : w.cell? ⟨g, 1, none⟩ = some (.int .i64 a.n)) (c2 : w.cell? ⟨g, 2, none⟩ = some (.slice a.A1 a.xs.length a.k1)) (c3 : w.cell? ⟨g, 3, none⟩ = some (.slice a.A2 a.ys.length a.k2))
    (ha : RM 72 3 w a.A1 a.xs ∧ RM 72 3 w a.A2 a.ys) (sa : SzM a.xs ∧ SzM a.ys) :
    Calls Try.prog 45 #[.slice A ts.length k, .func (.func 46) #[] #[.pointer (some ⟨g, 0, none⟩)]] w fun e w' =>
      e = .returned (.int .i64 (idxF (fun b : Tn => decide (a.dat = b.dat)) ts)) ∧ Ext w w' := by
  have hn := hs.1
  go_enter Try.func45, Try.ntmps45
  go_wp2
  go_loopw [8] (fun i wr => ∃ j : Nat, j ≤ ts.length ∧ i = .int .i64 j ∧ (∀ t, t < j → ∀ y, ts[t]? = some y → decide (a.dat = y.dat) = false) ∧ Ext w wr) (fun i _ => ts.length - (intOf i).toNat)
  case atStart => exact ⟨0, Nat.zero_le _, rfl, fun t ht => absurd ht (by omega), Ext.refl _⟩
  case round =>
    obtain ⟨j, hj, rfl, hall, hext⟩ := hrel
    have HA := hid hall
    clear hall
    by_cases hlt : j < ts.length
    · obtain ⟨b, o, m, rfl, hb, hm, d0, d1, d2, d3, hI1, hI2⟩ := (h.ext hext).at_ hlt
      have HX := hid hm
      have hsz := hs.at_ hm
      have HC := hid (fun (v : Bool) (hv : decide (a.dat = m.dat) = v) => findC a m g wr (keep hext c0) (keep hext c1) (keep hext c2) (keep hext c3) ⟨ha.1.ext hext, ha.2.ext hext⟩ ⟨hI1, hI2⟩ sa hsz hv)
      clear hm h c0 c1 c2 c3
      cases hw : decide (a.dat = m.dat)
      · have HW := hid hw
        clear hw
        go_wp2_with (go_at_call 46; refine (HC.out _ HW.out).mono ?_; rintro e w' ⟨rfl, hw1⟩)
        go_roundw
        case rel =>
          refine ⟨j + 1, by omega, by go_num, fun t ht y hy => ?_, (by repeat (first | with_reducible assumption | with_reducible exact Ext.refl _ | with_reducible apply Ext.drewN | with_reducible apply Ext.drew | with_reducible apply Ext.alloc | with_reducible refine Ext.set ?_ (by first | (simp; done) | (simp; omega)) _ | with_reducible refine Ext.next ?_ (by with_reducible assumption)))⟩
          rcases Nat.lt_or_ge t j with h1 | h1
          · exact HA.out t h1 y hy
          · obtain rfl : t = j := by omega
            rw [HX.out] at hy
            injection hy with hy
            rw [← hy]
            exact HW.out
        case measure => simp [intOf]; omega
      · have HW := hid hw
        have HS := hid (idxF_hit (p := fun b : Tn => decide (a.dat = b.dat)) HX.out hw HA.out)
        clear hw
        go_wp2_with (go_at_call 46; refine (HC.out _ HW.out).mono ?_; rintro e w' ⟨rfl, hw1⟩)
        go_ret
        exact ⟨ret_int HS.out.symm, (by repeat (first | with_reducible assumption | with_reducible exact Ext.refl _ | with_reducible apply Ext.drewN | with_reducible apply Ext.drew | with_reducible apply Ext.alloc | with_reducible refine Ext.set ?_ (by first | (simp; done) | (simp; omega)) _ | with_reducible refine Ext.next ?_ (by with_reducible assumption)))⟩
    · have HS := hid (idxF_miss (p := fun b : Tn => decide (a.dat = b.dat)) (xs := ts) fun t ht => HA.out t (by omega))
      go_wp2
      go_ret
      exact ⟨ret_int HS.out.symm, hext⟩

theorem findAtom (A : Option Addr) (k : Nat) (ts : List Tn) (a : Tn) (w : World) (h : RT 46 72 3 w A ts) (hs : SzT ts) (ha : RM 72 3 w a.A1 a.xs ∧ RM 72 3 w a.A2 a.ys) (sa : SzM a.xs ∧ SzM a.ys) :
    Calls Try.prog 22 #[.agg #[.slice A ts.length k], a.val] w fun e w' => e = .returned (.int .i64 (idxF (fun b : Tn => decide (a.dat = b.dat)) ts)) ∧ Ext w w' := by
  unfold Tn.val
  go_enter Try.func22, Try.ntmps22
  go_wp2_with fail
  refine (indexAtom _ _ ts a _ _ (h.ext (by repeat (first | with_reducible assumption | with_reducible exact Ext.refl _ | with_reducible apply Ext.drewN | with_reducible apply Ext.drew | with_reducible apply Ext.alloc | with_reducible refine Ext.set ?_ (by first | (simp; done) | (simp; omega)) _ | with_reducible refine Ext.next ?_ (by with_reducible assumption)))) hs (by go_simp) (by go_simp) (by go_simp) (by go_simp) ⟨ha.1.ext (by repeat (first | with_reducible assumption | with_reducible exact Ext.refl _ | with_reducible apply Ext.drewN | with_reducible apply Ext.drew | with_reducible apply Ext.alloc | with_reducible refine Ext.set ?_ (by first | (simp; done) | (simp; omega)) _ | with_reducible refine Ext.next ?_ (by with_reducible assumption))), ha.2.ext (by repeat (first | with_reducible assumption | with_reducible exact Ext.refl _ | with_reducible apply Ext.drewN | with_reducible apply Ext.drew | with_reducible apply Ext.alloc | with_reducible refine Ext.set ?_ (by first | (simp; done) | (simp; omega)) _ | with_reducible refine Ext.next ?_ (by with_reducible assumption)))⟩ sa).mono ?_
  rintro e w1 ⟨rfl, hw1⟩
  go_wp2
  go_ret
  exact ⟨rfl, (by repeat (first | with_reducible assumption | with_reducible exact Ext.refl _ | with_reducible apply Ext.drewN | with_reducible apply Ext.drew | with_reducible apply Ext.alloc | with_reducible refine Ext.set ?_ (by first | (simp; done) | (simp; omega)) _ | with_reducible refine Ext.next ?_ (by with_reducible assumption)))⟩

theorem idxF_dat {ts : List Tn} {j : Nat} {a : Tn} (ha : ts[j]? = some a) : (idxF (fun b : Tn => decide (a.dat = b.dat)) ts = j ∧ ∀ t, t < j → (ts.map Tn.dat)[t]? ≠ some a.dat) ∨ ((idxF (fun b : Tn => decide (a.dat = b.dat)) ts == (j : Int)) = false ∧ ∃ t, t < j ∧ (ts.map Tn.dat)[t]? = some a.dat) := by
  by_cases hx : ∃ t, t < j ∧ (ts.map Tn.dat)[t]? = some a.dat
  · refine .inr ⟨?_, hx⟩
    obtain ⟨t, ht, hd⟩ := hx
    rw [List.getElem?_map] at hd
    obtain ⟨b, hb, hbd⟩ := Option.map_eq_some_iff.1 hd
    rw [beq_eq_false_iff_ne]
    intro e
    have hany : ts.any (fun b : Tn => decide (a.dat = b.dat)) = true := List.any_eq_true.2 ⟨b, List.mem_of_getElem? hb, by simp [hbd]⟩
    unfold idxF at e
    rw [if_pos hany] at e
    have e : ts.findIdx (fun b : Tn => decide (a.dat = b.dat)) = j := by omega
    have h3 := List.not_of_lt_findIdx (p := fun b : Tn => decide (a.dat = b.dat)) (xs := ts) (i := t) (by omega)
    obtain ⟨ht2, hb2⟩ := List.getElem?_eq_some_iff.1 hb
    rw [hb2] at h3
    simp [hbd] at h3
  · refine .inl ⟨idxF_hit ha (by simp) fun t ht y hy => ?_, fun t ht e => hx ⟨t, ht, e⟩⟩
    rw [decide_eq_false_iff_not]
    intro e
    exact hx ⟨t, ht, by rw [e]; exact datT hy⟩
end Go.Proofs.Ytkdggfkigjpbfaa
