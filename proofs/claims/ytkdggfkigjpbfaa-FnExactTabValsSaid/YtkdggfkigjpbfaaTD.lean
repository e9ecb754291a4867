/- Contracts of what compares and marks tables of atoms (the laws' own helpers). Conditions: at most 1048576 elements. -/
import Derived.Test.YtkdggfkigjpbfaaTC
namespace Go.Proofs.Ytkdggfkigjpbfaa
open Go Go.RowKit
set_option linter.unusedVariables false
set_option linter.unusedSimpArgs false

set_option maxHeartbeats 1000000 in
theorem eqAtomS (A A' : Option Addr) (k k' n : Nat) (ts ts' : List Tn) (w : World) (h : RT 46 72 3 w A ts) (h' : RT 46 72 3 w A' ts') (hd : ts.map Tn.dat = ts'.map Tn.dat) (hl : ts.length = n) (hs : SzT ts) :
    Calls Try.prog 23 #[.slice A n k, .slice A' n k'] w fun e w' => e = .returned (.bool true) ∧ Ext w w' := by
  subst hl
  have hn := hs.1
  have HL := hid (show ts.length = ts'.length by simpa using congrArg List.length hd)
  have HD := hid hd
  clear hd
  go_enter Try.func23, Try.ntmps23
  go_wp2
  go_loopw [5] (fun i wr => ∃ j : Nat, j ≤ ts.length ∧ i = .int .i64 j ∧ Ext w wr) (fun i _ => ts.length - (intOf i).toNat)
  case atStart => exact ⟨0, Nat.zero_le _, rfl, Ext.refl _⟩
  case round =>
    obtain ⟨j, hj, rfl, hext⟩ := hrel
    by_cases hlt : j < ts.length
    · obtain ⟨b, o, m, rfl, hb, hm, hc0, hc1, hc2, hc3, hI1, hI2⟩ := (h.ext hext).at_ hlt
      obtain ⟨b', o', m', rfl, hb', hm', hd0, hd1, hd2, hd3, hJ1, hJ2⟩ := (h'.ext hext).at_ (i := j) (by rw [← HL.out]; exact hlt)
      obtain ⟨hsz1, hsz2⟩ := hs.at_ hm
      have E : Hid (m.dat = m'.dat) := hid (by
        have := congrArg (fun l : List (Int × Int × List (Int × List Int) × List (Int × List Int)) => l[j]?) HD.out
        simp only [List.getElem?_map, hm, hm', Option.map_some] at this
        injection this)
      clear hm hm' h h'
      go_wp2
      refine wp_region_over (by kernel_rfl) (by kernel_rfl) ?_
      repeat (go_big_quiet_step ((go_at_call 48; exact calls_over (eqAtom m m' _ ((hI1.ext (by repeat (first | with_reducible assumption | with_reducible exact Ext.refl _ | with_reducible apply Ext.drewN | with_reducible apply Ext.drew | with_reducible apply Ext.alloc | with_reducible refine Ext.set ?_ (by first | (simp; done) | (simp; omega)) _ | with_reducible refine Ext.next ?_ (by with_reducible assumption)))).ext (Over.ext _)) ((hI2.ext (by repeat (first | with_reducible assumption | with_reducible exact Ext.refl _ | with_reducible apply Ext.drewN | with_reducible apply Ext.drew | with_reducible apply Ext.alloc | with_reducible refine Ext.set ?_ (by first | (simp; done) | (simp; omega)) _ | with_reducible refine Ext.next ?_ (by with_reducible assumption)))).ext (Over.ext _)) ((hJ1.ext (by repeat (first | with_reducible assumption | with_reducible exact Ext.refl _ | with_reducible apply Ext.drewN | with_reducible apply Ext.drew | with_reducible apply Ext.alloc | with_reducible refine Ext.set ?_ (by first | (simp; done) | (simp; omega)) _ | with_reducible refine Ext.next ?_ (by with_reducible assumption)))).ext (Over.ext _)) ((hJ2.ext (by repeat (first | with_reducible assumption | with_reducible exact Ext.refl _ | with_reducible apply Ext.drewN | with_reducible apply Ext.drew | with_reducible apply Ext.alloc | with_reducible refine Ext.set ?_ (by first | (simp; done) | (simp; omega)) _ | with_reducible refine Ext.next ?_ (by with_reducible assumption)))).ext (Over.ext _)) E.out hsz1 hsz2))))
      refine wpQuiet_nil ?_
      rintro _ ⟨⟨wq, hwq⟩, rfl⟩
      go_wp2
      go_roundw
      case rel => exact ⟨j + 1, by omega, by go_num, (by repeat (first | with_reducible assumption | with_reducible exact Ext.refl _ | with_reducible apply Ext.drewN | with_reducible apply Ext.drew | with_reducible apply Ext.alloc | with_reducible refine Ext.set ?_ (by first | (simp; done) | (simp; omega)) _ | with_reducible refine Ext.next ?_ (by with_reducible assumption)))⟩
      case measure => simp [intOf]; omega
    · go_wp2
      go_ret
      exact ⟨rfl, hext⟩

theorem eqTab (A A' : Option Addr) (k k' n n' : Nat) (ts ts' : List Tn) (w : World) (h : RT 46 72 3 w A ts) (h' : RT 46 72 3 w A' ts') (hd : ts.map Tn.dat = ts'.map Tn.dat) (hl : ts.length = n) (hl' : ts'.length = n') (hs : SzT ts) :
    Calls Try.prog 9 #[.agg #[.slice A n k], .agg #[.slice A' n' k']] w fun e w' => e = .returned (.bool true) ∧ Ext w w' := by
  have HL := show ts.length = ts'.length by simpa using congrArg List.length hd
  obtain rfl : n = n' := by omega
  have HD := hid hd
  have HL2 := hid hl
  clear hd hl hl' HL
  go_enter Try.func9, Try.ntmps9
  go_wp2_with fail
  refine (eqAtomS _ _ _ _ _ ts ts' _ (h.ext (by repeat (first | with_reducible assumption | with_reducible exact Ext.refl _ | with_reducible apply Ext.drewN | with_reducible apply Ext.drew | with_reducible apply Ext.alloc | with_reducible refine Ext.set ?_ (by first | (simp; done) | (simp; omega)) _ | with_reducible refine Ext.next ?_ (by with_reducible assumption)))) (h'.ext (by repeat (first | with_reducible assumption | with_reducible exact Ext.refl _ | with_reducible apply Ext.drewN | with_reducible apply Ext.drew | with_reducible apply Ext.alloc | with_reducible refine Ext.set ?_ (by first | (simp; done) | (simp; omega)) _ | with_reducible refine Ext.next ?_ (by with_reducible assumption)))) HD.out HL2.out hs).mono ?_
  rintro e w1 ⟨rfl, hw1⟩
  go_wp2
  go_ret
  exact ⟨rfl, (by repeat (first | with_reducible assumption | with_reducible exact Ext.refl _ | with_reducible apply Ext.drewN | with_reducible apply Ext.drew | with_reducible apply Ext.alloc | with_reducible refine Ext.set ?_ (by first | (simp; done) | (simp; omega)) _ | with_reducible refine Ext.next ?_ (by with_reducible assumption)))⟩

/-! ### marks -/
def footT (A : Option Addr) (ts : List Tn) (b : Nat) : Prop := atB A b ∨ ∃ t ∈ ts, ft t b
/-- The atoms from the j-th on stand. -/
def MkR (TM TI : TypeId) (w : World) (g lo j : Nat) (ts : List Tn) : Prop := (∀ i, w.frozen? ⟨g, i, none⟩ = false) ∧ g < w.heap.size ∧ ∀ t a, j ≤ t → ts[t]? = some a →
  (∃ u, w.cell? ⟨g, t * 4, none⟩ = some u) ∧ (∃ u, w.cell? ⟨g, t * 4 + 1, none⟩ = some u) ∧ w.cell? ⟨g, t * 4 + 2, none⟩ = some (.slice a.A1 a.xs.length a.k1) ∧ w.cell? ⟨g, t * 4 + 3, none⟩ = some (.slice a.A2 a.ys.length a.k2) ∧ OM TM TI w lo a.A1 a.k1 a.xs ∧ OM TM TI w lo a.A2 a.k2 a.ys
section
variable {T TM TI : TypeId} {w w' : World} {g lo j k : Nat} {A : Option Addr} {ts : List Tn}
theorem MkR.start (h : OT T TM TI w lo (some ⟨g, 0, none⟩) k ts) : MkR TM TI w g lo 0 ts := by
  refine ⟨fun i => World.ownsRow.frozenAt (cap := k) h.1 i, (own_atB h.1 ⟨0, none, rfl⟩).2, fun t a _ ha => ?_⟩
  have hm := List.mem_of_getElem? ha
  obtain ⟨ht, _⟩ := List.getElem?_eq_some_iff.1 ha
  have hc : ∀ i, i < 4 → w.cell? ⟨g, t * 4 + i, none⟩ = a.cells[i]? := fun i hi => by
    rw [World.ownsRow.cellAt (cap := k) h.1 (t * 4 + i) (by omega), flat_at Tn.len _ _ _ hi, ha]
    rfl
  exact ⟨⟨_, hc 0 (by omega)⟩, ⟨_, hc 1 (by omega)⟩, hc 2 (by omega), hc 3 (by omega), h.2.1 a hm⟩
theorem MkR.upd {S : Nat → Prop} (h : MkR TM TI w g lo j ts) (he : Upd S w w') (hg : ¬ S g) (hs : ∀ t a, j ≤ t → ts[t]? = some a → ∀ b, ft a b → ¬ S b) : MkR TM TI w' g lo j ts := by
  obtain ⟨h1, h2, h3⟩ := h
  have k : ∀ o, w'.cell? ⟨g, o, none⟩ = w.cell? ⟨g, o, none⟩ := fun o => he.cell (p := ⟨g, o, none⟩) h2 hg
  refine ⟨fun i => (he.frozen (p := ⟨g, i, none⟩) h2 hg).trans (h1 i), Nat.lt_of_lt_of_le h2 he.size, fun t a ht ha => ?_⟩
  obtain ⟨c0, c1, c2, c3, o1, o2⟩ := h3 t a ht ha
  exact ⟨by rw [k]; exact c0, by rw [k]; exact c1, by rw [k]; exact c2, by rw [k]; exact c3, o1.upd he fun b hb => hs t a ht ha b (.inl hb), o2.upd he fun b hb => hs t a ht ha b (.inr hb)⟩
theorem MkR.store (h : MkR TM TI w g lo j ts) (hs : ∀ t a, j ≤ t → ts[t]? = some a → ∀ b, ft a b → b ≠ g) (i : Nat) (hi : i < 2) (v : Value) : MkR TM TI (w.setCell ⟨g, j * 4 + i, none⟩ v) g lo j ts := by
  obtain ⟨h1, h2, h3⟩ := h
  have he : Upd (fun b => b = g) w (w.setCell ⟨g, j * 4 + i, none⟩ v) := Upd.set (S := fun b => b = g) (Upd.refl _ _) (p := ⟨g, j * 4 + i, none⟩) (.inl rfl) _
  refine ⟨fun q => by rw [World.frozen?_setCell]; exact h1 q, by simpa using h2, fun t a ht ha => ?_⟩
  obtain ⟨⟨u0, c0⟩, ⟨u1, c1⟩, c2, c3, o1, o2⟩ := h3 t a ht ha
  refine ⟨cell?_setCell_some c0, cell?_setCell_some c1, ?_, ?_, o1.upd he fun b hb => hs t a ht ha b (.inl hb), o2.upd he fun b hb => hs t a ht ha b (.inr hb)⟩
  · exact (World.cell?_setCell_other (w := w) (a := ⟨g, j * 4 + i, none⟩) (b := ⟨g, t * 4 + 2, none⟩) (v := v) (fun e => by injection e with _ e _; omega)).trans c2
  · exact (World.cell?_setCell_other (w := w) (a := ⟨g, j * 4 + i, none⟩) (b := ⟨g, t * 4 + 3, none⟩) (v := v) (fun e => by injection e with _ e _; omega)).trans c3
theorem MkR.step (h : MkR TM TI w g lo j ts) : MkR TM TI w g lo (j + 1) ts := ⟨h.1, h.2.1, fun t a ht => h.2.2 t a (by omega)⟩
theorem OT.far (hT : T ≠ TM) (hT' : T ≠ TI) (h : OT T TM TI w lo (some ⟨g, 0, none⟩) k ts) {t : Nat} {a : Tn} (ha : ts[t]? = some a) {b : Nat} (hb : ft a b) : b ≠ g := by
  rintro rfl
  have hg := own_typed h.1 (b := b) ⟨0, none, rfl⟩
  rcases h.2.typed (List.mem_of_getElem? ha) hb with e | e
  · exact hT (hg.same e)
  · exact hT' (hg.same e)
theorem OPs.apart (h : OPs TM TI w lo ts) {s t : Nat} {a c : Tn} (hs : ts[s]? = some a) (ht : ts[t]? = some c) (hne : s < t) {b : Nat} (hb : ft c b) : ¬ ft a b := fun hb' => by
  obtain ⟨i1, rfl⟩ := List.getElem?_eq_some_iff.1 hs
  obtain ⟨i2, rfl⟩ := List.getElem?_eq_some_iff.1 ht
  exact List.pairwise_iff_getElem.1 h.2.2 s t i1 i2 hne b hb' hb
end

set_option maxHeartbeats 1000000 in
theorem markAtomS (A : Option Addr) (kc lo : Nat) (ts : List Tn) (k : Int) (w : World) (h : OT 46 72 3 w lo A kc ts) (h0 : 0 ≤ k) (h1 : k + 2 * totT ts < 4611686018427387904) :
    Calls Try.prog 32 #[.slice A ts.length kc, .int .i64 k] w fun e w' => e = .returned (.int .i64 (k + totT ts + ts.length)) ∧ Upd (footT A ts) w w' := by
  have hn := totT_len ts
  have HH := hid h
  by_cases hz : ts = []
  · subst hz
    clear h
    go_enter Try.func32, Try.ntmps32
    go_wp2
    go_loopw [1, 5] (fun v i wr => v = .int .i64 k ∧ i = .int .i64 0 ∧ wr = w) (fun _ i _ => 0)
    case atStart => exact ⟨rfl, rfl, rfl⟩
    case round =>
      obtain ⟨rfl, rfl, rfl⟩ := hrel
      go_wp2
      go_ret
      exact ⟨ret_int (by simp [totT]), Upd.refl _ _⟩
  obtain ⟨g, rfl⟩ : ∃ g, A = some ⟨g, 0, none⟩ := by
    rcases h.1.2 with ⟨_, h0⟩ | ⟨g, cap, _, hv, _⟩
    · exact absurd (List.length_eq_zero_iff.1 h0) hz
    · injection hv with hA _ _
      exact ⟨g, hA⟩
  have HS := hid (MkR.start h)
  have HF : Hid (∀ (t : Nat) (a : Tn), ts[t]? = some a → ∀ b, ft a b → b ≠ g) := hid fun t a ha b hb => h.far (by decide) (by decide) ha hb
  clear h hz
  go_enter Try.func32, Try.ntmps32
  go_wp2
  go_loopw [1, 5] (fun v i wr => ∃ j : Nat, j ≤ ts.length ∧ i = .int .i64 j ∧ v = .int .i64 (k + totT (ts.take j) + j) ∧ MkR 72 3 wr g lo j ts ∧ Upd (footT (some ⟨g, 0, none⟩) ts) w wr) (fun _ i _ => ts.length - (intOf i).toNat)
  case atStart => exact ⟨0, Nat.zero_le _, rfl, by simp [totT], HS.out, Upd.refl _ _⟩
  case round =>
    obtain ⟨j, hj, rfl, rfl, hM, hup⟩ := hrel
    by_cases hlt : j < ts.length
    · have hm : ts[j]? = some ts[j] := List.getElem?_eq_getElem hlt
      generalize ts[j] = a at hm
      have ht1 := totT_take hm
      have ht2 := totT_le ts (j + 1)
      have ht3 := totT_rest ts (j + 1) hlt
      have hjt : j ≤ totT (ts.take j) := by have := totT_len (ts.take j); rw [List.length_take] at this; omega
      obtain ⟨⟨u0, c0⟩, ⟨u1, c1⟩, c2, c3, o1, o2⟩ := hM.2.2 j a (Nat.le_refl _) hm
      have f0 := hM.1 (j * 4)
      have f1 := hM.1 (j * 4 + 1)
      have hg := hM.2.1
      have M0 := hid hM
      have HM := hid hm
      have HU := hid hup
      have HT := hid ht1
      clear hM hup o1 o2 c2 c3 hm ht1
      generalize hS : totT (ts.take j) = S at *
      have HS2 := hid hS
      clear hS
      obtain ⟨v1, hv1⟩ : ∃ v : Int, v = k + S + j := ⟨_, rfl⟩
      rw [← hv1]
      have M1 : Hid (MkR 72 3 (wr.setCell ⟨g, j * 4, none⟩ (.int .i64 v1)) g lo j ts) := hid (M0.out.store (fun t a _ ha b hb => HF.out t a ha b hb) 0 (by omega) (.int .i64 v1))
      have M2 : Hid (MkR 72 3 ((wr.setCell ⟨g, j * 4, none⟩ (.int .i64 v1)).setCell ⟨g, j * 4 + 1, none⟩ (.int .i64 (v1 + 1))) g lo j ts) := hid (M1.out.store (fun t a _ ha b hb => HF.out t a ha b hb) 1 (by omega) (.int .i64 (v1 + 1)))
      have hgl : (wr.setCell ⟨g, j * 4, none⟩ (.int .i64 v1)).heap.size = wr.heap.size := by simp
      obtain ⟨_, _, c2, c3, o1, o2⟩ := M2.out.2.2 j a (Nat.le_refl _) HM.out
      have hma : a ∈ ts := List.mem_of_getElem? HM.out
      have HDJ := hid (HH.out.2.2.1 a hma)
      have HAP : Hid (∀ t c, j + 1 ≤ t → ts[t]? = some c → ∀ b, ft c b → ¬ ft a b) := hid fun t c ht hc b hb => HH.out.2.apart HM.out hc ht hb
      have hb1 : 0 ≤ v1 := by omega
      have hb2 : v1 + 2 + (totM a.xs : Int) + (totM a.ys : Int) < 4611686018427387904 := by have := HT.out; omega
      have HV1 := hid hv1
      clear hv1
      go_wp2_with fail
      refine (markMonoS _ _ _ _ _ _ o1 (by omega) (by omega)).mono ?_
      rintro e w1 ⟨rfl, _, hu1⟩
      have M3 := hid ((M2.out.step).upd hu1 (fun hb => HF.out j a HM.out g (.inl hb) rfl) (fun t c ht hc b hb hb' => HAP.out t c ht hc b hb (.inl hb')))
      have p2 := o2.upd hu1 (fun b hb hb' => HDJ.out b hb' hb)
      have d3 := (hu1.cell (p := ⟨g, j * 4 + 3, none⟩) M2.out.2.1 (fun hb => HF.out j a HM.out g (.inl hb) rfl)).trans c3
      have U1 : Hid (Upd (footT (some ⟨g, 0, none⟩) ts) w w1) := hid ((((HU.out.set (p := ⟨g, j * 4, none⟩) (.inl (.inl ⟨0, none, rfl⟩)) (.int .i64 v1)).set (p := ⟨g, j * 4 + 1, none⟩) (.inl (.inl ⟨0, none, rfl⟩)) (.int .i64 (v1 + 1)))).next (hu1.mono fun b _ hb => .inr ⟨a, hma, .inl hb⟩))
      clear hu1 o1 o2 c0 c1 c2 c3 f0 f1
      go_wp2_with fail
      refine (markMonoS _ _ _ _ _ _ p2 (by omega) (by omega)).mono ?_
      rintro e w2 ⟨rfl, _, hu2⟩
      have M4 := hid (M3.out.upd hu2 (fun hb => HF.out j a HM.out g (.inr hb) rfl) (fun t c ht hc b hb hb' => HAP.out t c ht hc b hb (.inr hb')))
      have U2 : Hid (Upd (footT (some ⟨g, 0, none⟩) ts) w w2) := hid (U1.out.next (hu2.mono fun b _ hb => .inr ⟨a, hma, .inr hb⟩))
      clear hu2 p2 d3
      go_wp2
      go_roundw
      case rel => exact ⟨j + 1, by omega, by go_num, by rw [HT.out, HV1.out]; go_num, M4.out, U2.out⟩
      case measure => simp [intOf]; omega
    · obtain rfl : j = ts.length := by omega
      have HU := hid hup
      have HT : Hid (totT (ts.take ts.length) = totT ts) := hid (by rw [List.take_length])
      clear hup hM
      go_wp2
      go_ret
      exact ⟨ret_int (by rw [HT.out]), HU.out⟩

theorem markTab (A : Option Addr) (kc lo : Nat) (ts : List Tn) (k : Int) (w : World) (h : OT 46 72 3 w lo A kc ts) (h0 : 0 ≤ k) (h1 : k + 2 * totT ts < 4611686018427387904) :
    Calls Try.prog 14 #[.agg #[.slice A ts.length kc], .int .i64 k] w fun e w' => e = .returned (.int .i64 (k + totT ts + ts.length)) ∧ Upd (footT A ts) w w' := by
  go_enter Try.func14, Try.ntmps14
  go_wp2_with fail
  refine (markAtomS _ _ _ _ _ _ (h.ext (by repeat (first | with_reducible assumption | with_reducible exact Ext.refl _ | with_reducible apply Ext.drewN | with_reducible apply Ext.drew | with_reducible apply Ext.alloc))) h0 h1).mono ?_
  rintro e w1 ⟨rfl, hu⟩
  have HU : Hid (Upd (footT A ts) w w1) := hid ((Upd.of_ext (by repeat (first | with_reducible assumption | with_reducible exact Ext.refl _ | with_reducible apply Ext.drewN | with_reducible apply Ext.drew | with_reducible apply Ext.alloc))).next hu)
  clear hu h
  go_wp2
  go_ret
  exact ⟨rfl, HU.out⟩
theorem OT.foot_ {T TM TI : TypeId} {w : World} {lo k : Nat} {A : Option Addr} {ts : List Tn} (h : OT T TM TI w lo A k ts) {b : Nat} (hb : footT A ts b) : lo ≤ b ∧ b < w.heap.size := by
  rcases hb with hb | ⟨t, ht, hb⟩
  · exact own_atB h.1 hb
  · exact h.2.ft_ ht hb
end Go.Proofs.Ytkdggfkigjpbfaa
