/- Contracts of the reference's own l4Merge, PolMul, PolScale. Conditions: lengths that a machine can hold. -/
import Derived.Test.YtcgelcaepkakaaaZ6
namespace Go.Proofs.Ytcgelcaepkakaaa
open Go Go.RowKit
set_option linter.unusedVariables false
set_option linter.unusedSimpArgs false

/-- Where the merging of two lists stands. -/
structure MrgI (xs ys : List Int) (i j : Nat) (out : List Int) : Prop where
  srt : sortedB out = true
  le1 : ∀ a ∈ out, ∀ b ∈ xs.drop i, a ≤ b
  le2 : ∀ a ∈ out, ∀ b ∈ ys.drop j, a ≤ b
  perm : (out ++ (xs.drop i ++ ys.drop j)).Perm (xs ++ ys)
theorem mrg_start (xs ys : List Int) : MrgI xs ys 0 0 [] := ⟨rfl, (fun _ h => (by cases h)), (fun _ h => (by cases h)), List.Perm.refl _⟩
theorem drop_cons {xs : List Int} {i : Nat} {x : Int} (h : xs[i]? = some x) : xs.drop i = x :: xs.drop (i + 1) := by
  obtain ⟨hi, rfl⟩ := List.getElem?_eq_some_iff.1 h
  exact List.drop_eq_getElem_cons hi
theorem sorted_drop : ∀ {xs : List Int} (i : Nat), sortedB xs = true → sortedB (xs.drop i) = true
  | xs, 0, h => h
  | [], i + 1, h => rfl
  | a :: l, i + 1, h => sorted_drop (xs := l) i (sorted_tail h)
theorem sorted_snoc {l : List Int} {x : Int} (h : sortedB l = true) (k : ∀ a ∈ l, a ≤ x) : sortedB (l ++ [x]) = true := sorted_append h rfl fun a ha y hy => by rw [List.mem_singleton.1 hy]; exact k a ha
theorem mrg_left {xs ys : List Int} {i j : Nat} {out : List Int} {x y : Int} (hs : sortedB xs = true) (hs' : sortedB ys = true) (h : MrgI xs ys i j out) (hx : xs[i]? = some x) (hy : ys[j]? = some y) (hle : x ≤ y) : MrgI xs ys (i + 1) j (out ++ [x]) := by
  have e := drop_cons hx
  have h1 := sorted_drop i hs
  rw [e] at h1
  have e2 := drop_cons hy
  have h2 := sorted_drop j hs'
  rw [e2] at h2
  refine ⟨sorted_snoc h.srt fun a ha => h.le1 a ha x (by rw [e]; exact List.mem_cons_self), fun a ha b hb => ?_, fun a ha b hb => ?_, ?_⟩
  · rcases List.mem_append.1 ha with ha | ha
    · exact h.le1 a ha b (by rw [e]; exact List.mem_cons_of_mem _ hb)
    · rw [List.mem_singleton.1 ha]; exact sorted_le h1 b hb
  · rcases List.mem_append.1 ha with ha | ha
    · exact h.le2 a ha b hb
    · rw [List.mem_singleton.1 ha]
      rw [e2] at hb
      rcases List.mem_cons.1 hb with rfl | hb
      · exact hle
      · exact Int.le_trans hle (sorted_le h2 b hb)
  · have := h.perm
    rw [e] at this
    simpa [List.append_assoc] using this
theorem mrg_right {xs ys : List Int} {i j : Nat} {out : List Int} {y : Int} (hs : sortedB xs = true) (hs' : sortedB ys = true) (h : MrgI xs ys i j out) (hy : ys[j]? = some y) (hlt : ∀ x, xs[i]? = some x → y ≤ x) : MrgI xs ys i (j + 1) (out ++ [y]) := by
  have e2 := drop_cons hy
  have h2 := sorted_drop j hs'
  rw [e2] at h2
  refine ⟨sorted_snoc h.srt fun a ha => h.le2 a ha y (by rw [e2]; exact List.mem_cons_self), fun a ha b hb => ?_, fun a ha b hb => ?_, ?_⟩
  · rcases List.mem_append.1 ha with ha | ha
    · exact h.le1 a ha b hb
    · rw [List.mem_singleton.1 ha]
      rcases Nat.lt_or_ge i xs.length with hi | hi
      · have hx := List.getElem?_eq_getElem hi
        have e := drop_cons hx
        have h1 := sorted_drop i hs
        rw [e] at h1 hb
        rcases List.mem_cons.1 hb with rfl | hb
        · exact hlt _ hx
        · exact Int.le_trans (hlt _ hx) (sorted_le h1 b hb)
      · rw [List.drop_eq_nil_of_le hi] at hb; cases hb
  · rcases List.mem_append.1 ha with ha | ha
    · exact h.le2 a ha b (by rw [e2]; exact List.mem_cons_of_mem _ hb)
    · rw [List.mem_singleton.1 ha]; exact sorted_le h2 b hb
  · have := h.perm
    rw [e2] at this
    refine List.Perm.trans ?_ this
    rw [List.append_assoc]
    refine List.Perm.append_left out ?_
    exact (List.perm_middle (l₁ := xs.drop i) (a := y) (l₂ := ys.drop (j + 1))).symm
theorem mrg_end {xs ys : List Int} {i j : Nat} {out : List Int} (hs : sortedB xs = true) (h : MrgI xs ys i j out) (hj : ys.length ≤ j) : out ++ xs.drop i = srt (xs ++ ys) := by
  refine srt_of (sorted_append h.srt (sorted_drop i hs) h.le1) ?_
  have := h.perm
  rwa [List.drop_eq_nil_of_le hj, List.append_nil] at this

theorem RI.drop {TI : TypeId} {w : World} {b o : Nat} {xs : List Int} (h : RI TI w (some ⟨b, o, none⟩) xs) (i : Nat) : RI TI w (some ⟨b, o + i, none⟩) (xs.drop i) := fun hn => by
  have hne : xs.map (Value.int .i64) ≠ [] := by
    rintro e
    apply hn
    rw [List.map_drop, e, List.drop_nil]
  obtain ⟨b', o', c, fr, e, hb, hc⟩ := h hne
  injection e with e
  injection e with e1 e2 _
  subst e1 e2
  refine ⟨b, o + i, c, fr, rfl, hb, fun t ht => ?_⟩
  have := hc (i + t) (by rw [List.length_map, List.length_drop] at ht; rw [List.length_map]; omega)
  rw [Nat.add_assoc, this, List.map_drop, List.getElem?_drop]

set_option maxRecDepth 100000 in
set_option maxHeartbeats 1000000 in
theorem specMerge (A A' : Option Addr) (k k' : Nat) (xs ys : List Int) (w : World) (h : RK 3 w A k xs) (h' : RK 3 w A' k' ys) (hn : xs.length < 1048576) (hn' : ys.length < 1048576) (hk : xs.length ≤ k) (hs : sortedB xs = true) (hs' : sortedB ys = true) :
    Calls Try.prog 63 #[.slice A xs.length k, .slice A' ys.length k'] w (RetI 3 w (srt (xs ++ ys))) := by
  have HS := hid hs
  have HS' := hid hs'
  clear hs hs'
  go_enter Try.func63, Try.ntmps63
  go_wp2
  go_loopw [5, 6, 7] (fun so si sj wr => ∃ (i j : Nat) (B : Option Addr) (kb : Nat) (out : List Int), i ≤ xs.length ∧ j ≤ ys.length ∧ si = .int .i64 i ∧ sj = .int .i64 j ∧ so = .slice B out.length kb ∧ OI 3 wr w.heap.size B kb out ∧ MrgI xs ys i j out ∧ out.length = i + j ∧ Ext w wr) (fun _ _ sj _ => ys.length - (intOf sj).toNat)
  case atStart => exact ⟨0, 0, _, _, [], Nat.zero_le _, Nat.zero_le _, rfl, rfl, rfl, OI.made _ (Nat.le_refl _), mrg_start _ _, rfl, (by repeat (first | with_reducible assumption | with_reducible exact Ext.refl _ | with_reducible apply Ext.drewN | with_reducible apply Ext.drew | with_reducible apply Ext.alloc | with_reducible refine Ext.set ?_ (by first | (simp; done) | (simp; omega)) _ | with_reducible refine Ext.next ?_ (by with_reducible assumption)))⟩
  case round =>
    obtain ⟨i, j, B, kb, out, hi, hj, rfl, rfl, rfl, hos, hI, hol, hext⟩ := hrel
    have HI := hid hI
    have hol1 : out.length ≤ i + j := by omega
    have HOL := hid hol
    clear hI hol
    by_cases hlt : j < ys.length
    · obtain ⟨b', o', y, rfl, hb', hy, cy⟩ := h'.1.at_ hlt
      have HY := hid hy
      clear hy
      obtain ⟨wo, rfl⟩ : ∃ wo : World, wo = wr := ⟨_, rfl⟩
      go_wp2
      go_loopw [5, 6] (fun so si wr => ∃ (i : Nat) (B : Option Addr) (kb : Nat) (out : List Int), i ≤ xs.length ∧ si = .int .i64 i ∧ so = .slice B out.length kb ∧ OI 3 wr w.heap.size B kb out ∧ MrgI xs ys i j out ∧ out.length = i + j ∧ Ext w wr) (fun _ si _ => xs.length - (intOf si).toNat)
      case atStart => exact ⟨i, B, kb, out, hi, rfl, rfl, hos, HI.out, HOL.out, hext⟩
      case round =>
        clear HI HOL hos hext hol1 hi
        obtain ⟨i, B, kb, out, hi, rfl, rfl, hos, hI, hol, hext⟩ := hrel
        have HI := hid hI
        have hol1 : out.length ≤ i + j := by omega
        have HOL := hid hol
        have cy' := keep hext cy
        have hb'' := lt_ext hext hb'
        have hsz := hext.size
        clear hI hol
        by_cases hli : i < xs.length
        · obtain ⟨b, o, x, rfl, hb, hx, cx⟩ := h.1.at_ hli
          have HX := hid hx
          have cx' := keep hext cx
          have hbx := lt_ext hext hb
          have hg1 : decide (i < xs.length) = true := decide_eq_true hli
          clear hx
          by_cases hle : x ≤ y
          · have HK := hid (mrg_left HS.out HS'.out HI.out HX.out HY.out hle)
            have hg2 : decide (x ≤ y) = true := decide_eq_true hle
            clear HI
            go_wp2
            refine wp_region_over (by kernel_rfl) (by kernel_rfl) ?_
            repeat (go_big_quiet_step (fail))
            refine wpQuiet_nil ?_
            rintro wq ⟨⟨_, hwq⟩, rfl⟩
            have cxq := keep hwq cx'
            have hbq := lt_ext hwq hbx
            have hosq := hos.ext hwq
            have hEq := hext.next hwq
            have hszq := hEq.size
            clear cx' cy' hos hwq hext hsz hbx
            go_wp2_with (at_builtin; (refine app_int Try.underlying28 info_int rfl _ _ rfl w.heap.size B kb out (hosq.ext (by repeat (first | with_reducible assumption | with_reducible exact Ext.refl _ | with_reducible apply Ext.drewN | with_reducible apply Ext.drew | with_reducible apply Ext.alloc | with_reducible refine Ext.set ?_ (by first | (simp; done) | (simp; omega)) _ | with_reducible refine Ext.next ?_ (by with_reducible assumption)))) out.length rfl rfl x ⟨wq.heap.size, 0, none⟩ 1 rfl (by rw [addr_add]; go_simp) (by omega) (by simp; omega) ?_); (intro B5 kb5 w5 ho5 hu5))
            have HX5 := hid (((Upd.of_ext (hEq.next (by repeat (first | with_reducible assumption | with_reducible exact Ext.refl _ | with_reducible apply Ext.drewN | with_reducible apply Ext.drew | with_reducible apply Ext.alloc | with_reducible refine Ext.set ?_ (by first | (simp; done) | (simp; omega)) _ | with_reducible refine Ext.next ?_ (by with_reducible assumption))))).next hu5).ext fun y hy => (own_atB hosq hy).1)
            have HO5 := hid ho5
            clear ho5 hu5
            go_wp2
            go_roundw
            case rel => exact ⟨i + 1, B5, kb5, out ++ [x], by omega, by go_num, by simp, HO5.out, HK.out, by rw [List.length_append, HOL.out]; simp; omega, HX5.out⟩
            case measure => simp [intOf]; omega
          · have HK := hid (mrg_right HS.out HS'.out HI.out HY.out (fun x' hx' => by rw [HX.out] at hx'; injection hx' with hx'; omega))
            have hg2 : decide (x ≤ y) = false := decide_eq_false hle
            clear HI
            go_wp2
            refine wp_region_over (by kernel_rfl) (by kernel_rfl) ?_
            repeat (go_big_quiet_step (fail))
            refine wpQuiet_nil ?_
            rintro wq ⟨⟨_, hwq⟩, rfl⟩
            have cyq := keep hwq cy'
            have hbq := lt_ext hwq hb''
            have hosq := hos.ext hwq
            have hEq := hext.next hwq
            have hszq := hEq.size
            clear cx' cy' hos hwq hext hsz hbx
            go_wp2_with (at_builtin; (refine app_int Try.underlying28 info_int rfl _ _ rfl w.heap.size B kb out (hosq.ext (by repeat (first | with_reducible assumption | with_reducible exact Ext.refl _ | with_reducible apply Ext.drewN | with_reducible apply Ext.drew | with_reducible apply Ext.alloc | with_reducible refine Ext.set ?_ (by first | (simp; done) | (simp; omega)) _ | with_reducible refine Ext.next ?_ (by with_reducible assumption)))) out.length rfl rfl y ⟨wq.heap.size, 0, none⟩ 1 rfl (by rw [addr_add]; go_simp) (by omega) (by simp; omega) ?_); (intro B5 kb5 w5 ho5 hu5))
            have HX5 := hid (((Upd.of_ext (hEq.next (by repeat (first | with_reducible assumption | with_reducible exact Ext.refl _ | with_reducible apply Ext.drewN | with_reducible apply Ext.drew | with_reducible apply Ext.alloc | with_reducible refine Ext.set ?_ (by first | (simp; done) | (simp; omega)) _ | with_reducible refine Ext.next ?_ (by with_reducible assumption))))).next hu5).ext fun y hy => (own_atB hosq hy).1)
            have HO5 := hid ho5
            clear ho5 hu5
            go_wp2
            go_roundw
            case rel => exact ⟨i, j + 1, B5, kb5, out ++ [y], by omega, by omega, rfl, by go_num, by simp, HO5.out, HK.out, by rw [List.length_append, HOL.out]; simp; omega, HX5.out⟩
            case measure => simp [intOf]; omega
        · have HK := hid (mrg_right HS.out HS'.out HI.out HY.out (fun x' hx' => by rw [List.getElem?_eq_none (by omega)] at hx'; cases hx'))
          have hg1 : decide (i < xs.length) = false := decide_eq_false hli
          clear HI
          go_wp2
          refine wp_region_over (by kernel_rfl) (by kernel_rfl) ?_
          repeat (go_big_quiet_step (fail))
          refine wpQuiet_nil ?_
          rintro wq ⟨⟨_, hwq⟩, rfl⟩
          have cyq := keep hwq cy'
          have hbq := lt_ext hwq hb''
          have hosq := hos.ext hwq
          have hEq := hext.next hwq
          have hszq := hEq.size
          clear cy' hos hwq hext hsz
          go_wp2_with (at_builtin; (refine app_int Try.underlying28 info_int rfl _ _ rfl w.heap.size B kb out (hosq.ext (by repeat (first | with_reducible assumption | with_reducible exact Ext.refl _ | with_reducible apply Ext.drewN | with_reducible apply Ext.drew | with_reducible apply Ext.alloc | with_reducible refine Ext.set ?_ (by first | (simp; done) | (simp; omega)) _ | with_reducible refine Ext.next ?_ (by with_reducible assumption)))) out.length rfl rfl y ⟨wq.heap.size, 0, none⟩ 1 rfl (by rw [addr_add]; go_simp) (by omega) (by simp; omega) ?_); (intro B5 kb5 w5 ho5 hu5))
          have HX5 := hid (((Upd.of_ext (hEq.next (by repeat (first | with_reducible assumption | with_reducible exact Ext.refl _ | with_reducible apply Ext.drewN | with_reducible apply Ext.drew | with_reducible apply Ext.alloc | with_reducible refine Ext.set ?_ (by first | (simp; done) | (simp; omega)) _ | with_reducible refine Ext.next ?_ (by with_reducible assumption))))).next hu5).ext fun y hy => (own_atB hosq hy).1)
          have HO5 := hid ho5
          clear ho5 hu5
          go_wp2
          go_roundw
          case rel => exact ⟨i, j + 1, B5, kb5, out ++ [y], by omega, by omega, rfl, by go_num, by simp, HO5.out, HK.out, by rw [List.length_append, HOL.out]; simp; omega, HX5.out⟩
          case measure => simp [intOf]; omega
    · obtain rfl : j = ys.length := by omega
      have HE := hid (mrg_end HS.out HI.out (Nat.le_refl _))
      have hsz := hext.size
      clear HI
      rcases A with _ | a
      · have hk0 := h.2 rfl
        subst hk0
        have hx0 : xs.length = 0 := by omega
        have hi0 : i = 0 := by omega
        subst hi0
        have HN : Hid (xs = []) := hid (List.eq_nil_of_length_eq_zero hx0)
        have HDR : Hid (xs.drop 0 = []) := hid (by rw [HN.out]; rfl)
        go_wp2_with (at_builtin; (refine app_ints Try.underlying28 info_int rfl _ _ rfl w.heap.size B kb out hos out.length rfl rfl none 0 [] 0 rfl rfl (RI.nil _ _ _) (fun _ => rfl) (out.length + 0) rfl (by omega) hsz ?_); (intro B5 kb5 w5 ho5 hu5))
        have HX5 := hid (((Upd.of_ext hext).next hu5).ext fun y hy => (own_atB hos hy).1)
        have HO5 : Hid (OI 3 w5 w.heap.size B5 kb5 (srt (xs ++ ys))) := hid (by rw [← HE.out, HDR.out]; exact ho5)
        have HL5 : Hid (out.length + 0 = (srt (xs ++ ys)).length) := hid (by rw [← HE.out, HDR.out, List.length_append]; simp)
        clear ho5 hu5
        go_wp2
        go_ret
        exact ⟨B5, kb5, by simp [← HL5.out], HO5.out, HX5.out⟩
      · by_cases hx0 : xs.length = 0
        · have hi0 : i = 0 := by omega
          subst hi0
          have HN : Hid (xs = []) := hid (List.eq_nil_of_length_eq_zero hx0)
          have HDR : Hid (xs.drop 0 = []) := hid (by rw [HN.out]; rfl)
          go_wp2_with (at_builtin; (refine app_ints Try.underlying28 info_int rfl _ _ rfl w.heap.size B kb out hos out.length rfl rfl (some a) k [] 0 rfl rfl (RI.nil _ _ _) (fun e => by cases e) (out.length + 0) rfl (by omega) hsz ?_); (intro B5 kb5 w5 ho5 hu5))
          have HX5 := hid (((Upd.of_ext hext).next hu5).ext fun y hy => (own_atB hos hy).1)
          have HO5 : Hid (OI 3 w5 w.heap.size B5 kb5 (srt (xs ++ ys))) := hid (by rw [← HE.out, HDR.out]; exact ho5)
          have HL5 : Hid (out.length + 0 = (srt (xs ++ ys)).length) := hid (by rw [← HE.out, HDR.out, List.length_append]; simp)
          clear ho5 hu5
          go_wp2
          go_ret
          exact ⟨B5, kb5, by simp [← HL5.out], HO5.out, HX5.out⟩
        · obtain ⟨b, o, x0, e, hb, _, _⟩ := h.1.at_ (i := 0) (by omega)
          injection e with e
          subst e
          have HR := hid (RI.drop (h.1.ext hext) i)
          have hri := HR.out
          by_cases hik : i = k
          · have hxk : xs.length = k := by omega
            have HDR : Hid (xs.drop i = []) := hid (List.drop_eq_nil_of_le (by omega))
            subst hik
            clear hri
            go_wp2_with (at_builtin; (refine app_ints Try.underlying28 info_int rfl _ _ rfl w.heap.size B kb out hos out.length rfl rfl (some ⟨b, o, none⟩) 0 [] 0 rfl rfl (RI.nil _ _ _) (fun e => by cases e) (out.length + 0) rfl (by omega) hsz ?_); (intro B5 kb5 w5 ho5 hu5))
            have HX5 := hid (((Upd.of_ext hext).next hu5).ext fun y hy => (own_atB hos hy).1)
            have HO5 : Hid (OI 3 w5 w.heap.size B5 kb5 (srt (xs ++ ys))) := hid (by rw [← HE.out, HDR.out]; exact ho5)
            have HL5 : Hid (out.length + 0 = (srt (xs ++ ys)).length) := hid (by rw [← HE.out, HDR.out, List.length_append]; simp)
            clear ho5 hu5
            go_wp2
            go_ret
            exact ⟨B5, kb5, by simp [← HL5.out], HO5.out, HX5.out⟩
          · have hik' : i < k := by omega
            go_wp2_with (at_builtin; (refine app_ints Try.underlying28 info_int rfl _ _ rfl w.heap.size B kb out hos out.length rfl rfl (some ⟨b, o + i, none⟩) (k - i) (xs.drop i) (xs.length - i) (List.length_drop) rfl hri (fun e => by cases e) (out.length + (xs.length - i)) rfl (by omega) hsz ?_); (intro B5 kb5 w5 ho5 hu5))
            have HX5 := hid (((Upd.of_ext hext).next hu5).ext fun y hy => (own_atB hos hy).1)
            have HO5 : Hid (OI 3 w5 w.heap.size B5 kb5 (srt (xs ++ ys))) := hid (by rw [← HE.out]; exact ho5)
            have HL5 : Hid (out.length + (xs.length - i) = (srt (xs ++ ys)).length) := hid (by rw [← HE.out, List.length_append]; simp)
            clear ho5 hu5
            go_wp2
            go_ret
            exact ⟨B5, kb5, by simp [← HL5.out], HO5.out, HX5.out⟩
end Go.Proofs.Ytcgelcaepkakaaa
