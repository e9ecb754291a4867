/- Contracts of the reference's own PolMul and PolScale. Conditions: lengths that a machine can hold. -/
import Derived.Test.YtcgelcaepkakaaaZ7
namespace Go.Proofs.Ytcgelcaepkakaaa
open Go Go.RowKit
set_option linter.unusedVariables false
set_option linter.unusedSimpArgs false

/-- A sum with a part more, where the part is not 0. -/
def plus0 (l : List Mono) (m : Mono) : List Mono := if 0 < m.1 then plus l m else l
def plusZ (l : List Mono) : List Mono := l.foldl plus0 []
theorem plusZ_snoc (l : List Mono) (m : Mono) : plusZ (l ++ [m]) = if 0 < m.1 then plus (plusZ l) m else plusZ l := by
  unfold plusZ
  rw [List.foldl_append]
  rfl
theorem plus0_go : ∀ {b a : List Mono}, Canon a → (∀ m ∈ b, 0 ≤ m.1 ∧ m.1 ≤ 65535) → Canon (b.foldl plus0 a) ∧ Cong (b.foldl plus0 a) (a ++ b) ∧ (b.foldl plus0 a).length ≤ a.length + b.length ∧ ∀ y ∈ b.foldl plus0 a, ∃ x ∈ a ++ b, y.2 = x.2
  | [], a, h, _ => ⟨h, by rw [List.append_nil]; exact Cong.refl _, Nat.le_refl _, fun y hy => ⟨y, by rw [List.append_nil]; exact hy, rfl⟩⟩
  | m :: b, a, h, k => by
    have hm := k m List.mem_cons_self
    rw [List.foldl_cons]
    by_cases h0 : 0 < m.1
    · have e : plus0 a m = plus a m := by unfold plus0; rw [if_pos h0]
      rw [e]
      obtain ⟨i1, i2, i3, i4⟩ := plus0_go (b := b) (a := plus a m) (plus_canon ⟨by omega, hm.2⟩ h) fun x hx => k x (List.mem_cons_of_mem _ hx)
      have hl := plus_length m a
      refine ⟨i1, i2.trans fun φ => ?_, by simp only [List.length_cons]; omega, fun y hy => ?_⟩
      · rw [lin_append, lin_append, ← wrap_add_left, plus_lin, wrap_add_left]
        congr 1
        simp only [lin]
        omega
      · obtain ⟨x, hx, e⟩ := i4 y hy
        rcases List.mem_append.1 hx with hx | hx
        · rcases plus_mem hx with e' | ⟨z, hz, e'⟩
          · exact ⟨m, by simp, e.trans e'⟩
          · exact ⟨z, List.mem_append_left _ hz, e.trans e'⟩
        · exact ⟨x, List.mem_append_right _ (List.mem_cons_of_mem _ hx), e⟩
    · have e : plus0 a m = a := by unfold plus0; rw [if_neg h0]
      rw [e]
      obtain ⟨i1, i2, i3, i4⟩ := plus0_go (b := b) (a := a) h fun x hx => k x (List.mem_cons_of_mem _ hx)
      refine ⟨i1, i2.trans fun φ => ?_, by simp only [List.length_cons]; omega, fun y hy => ?_⟩
      · rw [lin_append, lin_append]
        simp only [lin]
        rw [show m.1 = 0 by omega, Int.zero_mul, Int.zero_add]
      · obtain ⟨x, hx, e⟩ := i4 y hy
        rcases List.mem_append.1 hx with hx | hx
        · exact ⟨x, List.mem_append_left _ hx, e⟩
        · exact ⟨x, List.mem_append_right _ (List.mem_cons_of_mem _ hx), e⟩
theorem plusZ_all {l : List Mono} (k : ∀ m ∈ l, 0 ≤ m.1 ∧ m.1 ≤ 65535) : Canon (plusZ l) ∧ plusZ l = norm l ∧ (plusZ l).length ≤ l.length ∧ ∀ y ∈ plusZ l, ∃ x ∈ l, y.2 = x.2 := by
  obtain ⟨i1, i2, i3, i4⟩ := plus0_go (b := l) (a := []) Canon.nil k
  refine ⟨i1, norm_unique i1 i2, ?_, fun y hy => by simpa using i4 y hy⟩
  have : (plusZ l).length ≤ 0 + l.length := i3
  omega
theorem row_coef {x : Mono} {b : List Mono} {m : Mono} (h : m ∈ row x b) : 0 ≤ m.1 ∧ m.1 ≤ 65535 := by
  obtain ⟨z, _, rfl⟩ := row_mem h
  have := wrap_bounds (x.1 * z.1)
  exact ⟨this.1, by simp only; omega⟩
theorem prods_coef {a b : List Mono} {m : Mono} (h : m ∈ prods a b) : 0 ≤ m.1 ∧ m.1 ≤ 65535 := by
  obtain ⟨x, hx, h⟩ := List.mem_flatMap.1 h
  exact row_coef (x := x) (b := b) h
/-- How far products have come. -/
def done (a b : List Mono) (i j : Nat) (x : Mono) : List Mono := prods (a.take i) b ++ row x (b.take j)
theorem done_coef {a b : List Mono} {i j : Nat} {x m : Mono} (h : m ∈ done a b i j x) : 0 ≤ m.1 ∧ m.1 ≤ 65535 := by
  rcases List.mem_append.1 h with h | h
  · exact prods_coef h
  · exact row_coef h
theorem done_len {a b : List Mono} {i j : Nat} {x : Mono} (ha : a.length ≤ 12) (hb : b.length ≤ 12) : (done a b i j x).length ≤ 156 := by
  unfold done row
  rw [List.length_append, prods_length, List.length_map, List.length_take, List.length_take]
  have := Nat.mul_le_mul (show min i a.length ≤ 12 by omega) hb
  omega
theorem done_step {a b : List Mono} {i j : Nat} {x y : Mono} (h : b[j]? = some y) : done a b i (j + 1) x = done a b i j x ++ [(wrap (x.1 * y.1), srt (x.2 ++ y.2))] := by
  unfold done
  rw [row_take h, List.append_assoc]
theorem done_next {a b : List Mono} {i j : Nat} {x : Mono} (h : a[i]? = some x) (hj : b.length ≤ j) : done a b i j x = prods (a.take (i + 1)) b := by
  unfold done
  rw [prods_take h, List.take_of_length_le hj]
theorem done_deg {a b : List Mono} {i j : Nat} {x m : Mono} (ha : ∀ y ∈ a, y.2.length ≤ 4) (hb : ∀ y ∈ b, y.2.length ≤ 4) (hx : x ∈ a) (h : m ∈ done a b i j x) : m.2.length ≤ 8 := by
  rcases List.mem_append.1 h with h | h
  · obtain ⟨y, hy, z, hz, e⟩ := prods_mem h
    have h1 := ha y (List.mem_of_mem_take hy)
    have h2 := hb z hz
    rw [e, srt_length, List.length_append]
    omega
  · obtain ⟨z, hz, rfl⟩ := row_mem h
    have h1 := ha x hx
    have h2 := hb z (List.mem_of_mem_take hz)
    simp only
    rw [srt_length, List.length_append]
    omega

set_option maxRecDepth 100000 in
set_option maxHeartbeats 2000000 in
theorem specPolMul (A A' : Option Addr) (k k' : Nat) (ms ms' : List Mn) (w : World) (h : RN 73 3 w A k ms) (h' : RN 73 3 w A' k' ms') (hs : SzM ms) (hs' : SzM ms') :
    Calls Try.prog 14 #[.agg #[.slice A ms.length k], .agg #[.slice A' ms'.length k']] w (RetQ 73 3 w (polMul (ms.map Mn.dat) (ms'.map Mn.dat))) := by
  cases ha : polOk (ms.map Mn.dat)
  · have HP := hid (polMul_no (a := ms.map Mn.dat) (b := ms'.map Mn.dat) (by rw [ha]; rfl))
    have HA := hid ha
    clear ha
    go_enter Try.func14, Try.ntmps14
    go_wp2_with fail
    refine (specPolOk _ _ _ _ (h.rm.ext (by repeat (first | with_reducible assumption | with_reducible exact Ext.refl _ | with_reducible apply Ext.drewN | with_reducible apply Ext.drew | with_reducible apply Ext.alloc | with_reducible refine Ext.set ?_ (by first | (simp; done) | (simp; omega)) _ | with_reducible refine Ext.next ?_ (by with_reducible assumption)))) hs).mono ?_
    rintro e w1 ⟨rfl, hw1⟩
    rw [HA.out]
    have c2 : w1.cell? ⟨w.heap.size + 1 + 1, 0, none⟩ = some (.slice none 0 0) := keep hw1 (by go_simp)
    have f2 : w1.frozen? ⟨w.heap.size + 1 + 1, 0, none⟩ = false := (hw1.frozen (by simp)).trans (by go_simp)
    have hx : Ext w w1 := (by repeat (first | with_reducible assumption | with_reducible exact Ext.refl _ | with_reducible apply Ext.drewN | with_reducible apply Ext.drew | with_reducible apply Ext.alloc | with_reducible refine Ext.set ?_ (by first | (simp; done) | (simp; omega)) _ | with_reducible refine Ext.next ?_ (by with_reducible assumption)))
    go_wp2
    refine bodyPost_ret (v := .tuple #[.agg #[.slice none 0 0], .bool false]) (by simp [results, Try.results14, go_sem, c2, f2]) rfl ⟨none, 0, [], by rw [HP.out]; rfl, by rw [HP.out]; rfl, OM.nil _ _, hx.set (by simp; omega) _⟩
  cases hb : polOk (ms'.map Mn.dat)
  · have HP := hid (polMul_no (a := ms.map Mn.dat) (b := ms'.map Mn.dat) (by rw [ha, hb]; rfl))
    have HA := hid ha
    have HB := hid hb
    clear ha hb
    go_enter Try.func14, Try.ntmps14
    go_wp2_with fail
    refine (specPolOk _ _ _ _ (h.rm.ext (by repeat (first | with_reducible assumption | with_reducible exact Ext.refl _ | with_reducible apply Ext.drewN | with_reducible apply Ext.drew | with_reducible apply Ext.alloc | with_reducible refine Ext.set ?_ (by first | (simp; done) | (simp; omega)) _ | with_reducible refine Ext.next ?_ (by with_reducible assumption)))) hs).mono ?_
    rintro e w1 ⟨rfl, hw1⟩
    rw [HA.out]
    have c1 : w1.cell? ⟨w.heap.size + 1, 0, none⟩ = some (.slice A' ms'.length k') := keep hw1 (by go_simp)
    have c2 : w1.cell? ⟨w.heap.size + 1 + 1, 0, none⟩ = some (.slice none 0 0) := keep hw1 (by go_simp)
    have f2 : w1.frozen? ⟨w.heap.size + 1 + 1, 0, none⟩ = false := (hw1.frozen (by simp)).trans (by go_simp)
    have hx : Ext w w1 := (by repeat (first | with_reducible assumption | with_reducible exact Ext.refl _ | with_reducible apply Ext.drewN | with_reducible apply Ext.drew | with_reducible apply Ext.alloc | with_reducible refine Ext.set ?_ (by first | (simp; done) | (simp; omega)) _ | with_reducible refine Ext.next ?_ (by with_reducible assumption)))
    have hl := World.block_lt_of_cell? _ _ c2
    simp only at hl
    go_wp2_with fail
    refine (specPolOk _ _ _ _ (h'.rm.ext (by repeat (first | with_reducible assumption | with_reducible exact Ext.refl _ | with_reducible apply Ext.drewN | with_reducible apply Ext.drew | with_reducible apply Ext.alloc | with_reducible refine Ext.set ?_ (by first | (simp; done) | (simp; omega)) _ | with_reducible refine Ext.next ?_ (by with_reducible assumption)))) hs').mono ?_
    rintro e w2 ⟨rfl, hw2⟩
    rw [HB.out]
    have d2 := keep hw2 c2
    have g2 := keepf hw2 c2 f2
    have hx2 := hx.next hw2
    clear c1 c2 f2
    go_wp2
    refine bodyPost_ret (v := .tuple #[.agg #[.slice none 0 0], .bool false]) (by simp [results, Try.results14, go_sem, d2, g2]) rfl ⟨none, 0, [], by rw [HP.out]; rfl, by rw [HP.out]; rfl, OM.nil _ _, hx2.set (by simp; omega) _⟩
  · obtain ⟨n1, x1, q1, a1⟩ := ok_small ha
    obtain ⟨n2, x2, q2, a2⟩ := ok_small hb
    have HP : Hid (polMul (ms.map Mn.dat) (ms'.map Mn.dat) = fitP (plusZ (prods (ms.map Mn.dat) (ms'.map Mn.dat)))) := hid (by rw [polMul_yes ha hb, (plusZ_all fun m hm => prods_coef hm).2.1])
    have HA := hid ha
    have HB := hid hb
    have HX1 := hid x1
    have HX2 := hid x2
    have HQ1 := hid q1
    have HQ2 := hid q2
    have HA1 := hid a1
    have HA2 := hid a2
    have HD1 : Hid (∀ y ∈ ms.map Mn.dat, y.2.length ≤ 4) := hid fun y hy => by obtain ⟨z, hz, rfl⟩ := List.mem_map.1 hy; exact x1 z hz
    have HD2 : Hid (∀ y ∈ ms'.map Mn.dat, y.2.length ≤ 4) := hid fun y hy => by obtain ⟨z, hz, rfl⟩ := List.mem_map.1 hy; exact x2 z hz
    clear ha hb x1 x2 q1 q2 a1 a2
    go_enter Try.func14, Try.ntmps14
    go_wp2_with fail
    refine (specPolOk _ _ _ _ (h.rm.ext (by repeat (first | with_reducible assumption | with_reducible exact Ext.refl _ | with_reducible apply Ext.drewN | with_reducible apply Ext.drew | with_reducible apply Ext.alloc | with_reducible refine Ext.set ?_ (by first | (simp; done) | (simp; omega)) _ | with_reducible refine Ext.next ?_ (by with_reducible assumption)))) hs).mono ?_
    rintro e w1 ⟨rfl, hw1⟩
    rw [HA.out]
    have c0 : w1.cell? ⟨w.heap.size, 0, none⟩ = some (.slice A ms.length k) := keep hw1 (by go_simp)
    have c1 : w1.cell? ⟨w.heap.size + 1, 0, none⟩ = some (.slice A' ms'.length k') := keep hw1 (by go_simp)
    have c2 : w1.cell? ⟨w.heap.size + 1 + 1, 0, none⟩ = some (.slice none 0 0) := keep hw1 (by go_simp)
    have f2 : w1.frozen? ⟨w.heap.size + 1 + 1, 0, none⟩ = false := (hw1.frozen (by simp)).trans (by go_simp)
    have hx : Ext w w1 := (by repeat (first | with_reducible assumption | with_reducible exact Ext.refl _ | with_reducible apply Ext.drewN | with_reducible apply Ext.drew | with_reducible apply Ext.alloc | with_reducible refine Ext.set ?_ (by first | (simp; done) | (simp; omega)) _ | with_reducible refine Ext.next ?_ (by with_reducible assumption)))
    have hl := World.block_lt_of_cell? _ _ c2
    simp only at hl
    go_wp2_with fail
    refine (specPolOk _ _ _ _ (h'.rm.ext (by repeat (first | with_reducible assumption | with_reducible exact Ext.refl _ | with_reducible apply Ext.drewN | with_reducible apply Ext.drew | with_reducible apply Ext.alloc | with_reducible refine Ext.set ?_ (by first | (simp; done) | (simp; omega)) _ | with_reducible refine Ext.next ?_ (by with_reducible assumption)))) hs').mono ?_
    rintro e w2 ⟨rfl, hw2⟩
    rw [HB.out]
    have d0 := keep hw2 c0
    have d1 := keep hw2 c1
    have d2 := keep hw2 c2
    have g2 := keepf hw2 c2 f2
    have hl2 := lt_ext hw2 hl
    have hx2 := hx.next hw2
    have h2 := h.ext hx2
    have h2' := h'.ext hx2
    clear c0 c1 c2 f2 h h' hw1 hw2 hx hl hs hs'
    go_wp2
    go_loopw [6, 7, 8, 9] (fun sl si _ _ wr => ∃ (i : Nat) (B : Option Addr) (kb : Nat) (ls : List Mn), i ≤ ms.length ∧ si = .int .i64 i ∧ sl = .slice B ls.length kb ∧ RN 73 3 wr B kb ls ∧ ls.map Mn.dat = plusZ (prods ((ms.map Mn.dat).take i) (ms'.map Mn.dat)) ∧ Ext w2 wr) (fun _ si _ _ _ => ms.length - (intOf si).toNat)
    case atStart => exact ⟨0, _, _, [], Nat.zero_le _, rfl, rfl, (LM.made _ (Nat.le_refl _)).rn, rfl, (by repeat (first | with_reducible assumption | with_reducible exact Ext.refl _ | with_reducible apply Ext.drewN | with_reducible apply Ext.drew | with_reducible apply Ext.alloc | with_reducible refine Ext.set ?_ (by first | (simp; done) | (simp; omega)) _ | with_reducible refine Ext.next ?_ (by with_reducible assumption)))⟩
    case round =>
      obtain ⟨i, B, kb, ls, hi, rfl, rfl, hls, hd, hext⟩ := hrel
      have HD := hid hd
      have hll : ls.length ≤ 156 := by
        have h1 := (plusZ_all (l := prods ((ms.map Mn.dat).take i) (ms'.map Mn.dat)) fun m hm => prods_coef hm).2.2.1
        rw [prods_length, List.length_take, List.length_map, List.length_map] at h1
        have := Nat.mul_le_mul (show min i ms.length ≤ 12 by omega) n2
        rw [dat_len hd]
        omega
      have d0' := keep hext d0
      have d1' := keep hext d1
      have hl3 := lt_ext hext hl2
      have hl4 : w.heap.size + 1 < wr.heap.size := by omega
      have hl5 : w.heap.size < wr.heap.size := by omega
      by_cases hlt : i < ms.length
      · have hm : ms[i]? = some ms[i] := List.getElem?_eq_getElem hlt
        generalize ms[i] = m at hm
        have HM := hid hm
        have HMD : Hid ((ms.map Mn.dat)[i]? = some m.dat) := hid (by rw [List.getElem?_map, hm]; rfl)
        have hcm := HQ1.out m (List.mem_of_getElem? hm)
        have hxm := HX1.out m (List.mem_of_getElem? hm)
        have HS := hid (HA1.out m (List.mem_of_getElem? hm)).1
        have HD0 : Hid (ls.map Mn.dat = plusZ (done (ms.map Mn.dat) (ms'.map Mn.dat) i 0 m.dat)) := hid (by rw [hd]; unfold done row; simp)
        clear hm hd HD
        obtain ⟨wo, rfl⟩ : ∃ wo : World, wo = wr := ⟨_, rfl⟩
        go_wp2
        go_loopw [6, 8, 9] (fun sl sj _ wr => ∃ (j : Nat) (B : Option Addr) (kb : Nat) (ls : List Mn), j ≤ ms'.length ∧ sj = .int .i64 j ∧ sl = .slice B ls.length kb ∧ RN 73 3 wr B kb ls ∧ ls.map Mn.dat = plusZ (done (ms.map Mn.dat) (ms'.map Mn.dat) i j m.dat) ∧ Ext w2 wr) (fun _ sj _ _ => ms'.length - (intOf sj).toNat)
        case atStart => exact ⟨0, B, kb, ls, Nat.zero_le _, rfl, rfl, hls, HD0.out, hext⟩
        case round =>
          clear HD0 hls hll d0' d1' hl3 hl4 hl5 hext
          obtain ⟨j, B, kb, ls, hj, rfl, rfl, hls, hd, hext⟩ := hrel
          have HD := hid hd
          have HZ := hid (plusZ_all (l := done (ms.map Mn.dat) (ms'.map Mn.dat) i j m.dat) fun x hx => done_coef hx)
          have hll : ls.length ≤ 156 := by
            have h1 := HZ.out.2.2.1
            have h2 := done_len (a := ms.map Mn.dat) (b := ms'.map Mn.dat) (i := i) (j := j) (x := m.dat) (by rw [List.length_map]; exact n1) (by rw [List.length_map]; exact n2)
            rw [dat_len hd]
            omega
          have HLX : Hid (∀ x ∈ ls, x.xs.length < 1048576) := hid fun x hx => by
            have hmd : x.dat ∈ plusZ (done (ms.map Mn.dat) (ms'.map Mn.dat) i j m.dat) := hd ▸ List.mem_map_of_mem hx
            obtain ⟨y, hy, e⟩ := HZ.out.2.2.2 _ hmd
            have h1 := done_deg HD1.out HD2.out (List.mem_of_getElem? HMD.out) hy
            have e2 : x.xs = y.2 := e
            rw [e2]; omega
          have HLC : Hid (Canon (ls.map Mn.dat)) := hid (by rw [hd]; exact HZ.out.1)
          clear hd
          have d0' := keep hext d0
          have d1' := keep hext d1
          have hl3 := lt_ext hext hl2
          have hl4 : w.heap.size + 1 < wr.heap.size := by omega
          have hl5 : w.heap.size < wr.heap.size := by omega
          by_cases hjt : j < ms'.length
          · obtain ⟨b, o, m0, rfl, hbl, hm0, c0, c1, hJ⟩ := (h2.ext hext).at_ hlt
            have := HM.out
            rw [hm0] at this
            injection this with this
            subst this
            clear hm0
            obtain ⟨b', o', m', rfl, hbl', hm', c0', c1', hJ'⟩ := (h2'.ext hext).at_ hjt
            have HMD' : Hid ((ms'.map Mn.dat)[j]? = some m'.dat) := hid (by rw [List.getElem?_map, hm']; rfl)
            have hcm' := HQ2.out m' (List.mem_of_getElem? hm')
            have hxm' := HX2.out m' (List.mem_of_getElem? hm')
            have HS' := hid (HA2.out m' (List.mem_of_getElem? hm')).1
            clear hm'
            have hc2 : 1 ≤ m0.c * m'.c ∧ m0.c * m'.c ≤ 4294836225 := by
              refine ⟨?_, ?_⟩
              · have := Int.mul_le_mul hcm.1 hcm'.1 (by omega) (by omega)
                omega
              · have := Int.mul_le_mul hcm.2 hcm'.2 (by omega) (by omega)
                omega
            go_wp2
            refine wp_region_over (by kernel_rfl) (by kernel_rfl) ?_
            repeat (go_big_quiet_step ((go_at_call 61; exact calls_over_same (specWrdWrap _ _))))
            refine wpQuiet_nil ?_
            rintro wq ⟨⟨_, hwq⟩, rfl⟩
            have d0q := keep hwq d0'
            have d1q := keep hwq d1'
            have c1q := keep hwq c1
            have c1q' := keep hwq c1'
            have hl3q := lt_ext hwq hl3
            have hl4q := lt_ext hwq hl4
            have hl5q := lt_ext hwq hl5
            have hblq := lt_ext hwq hbl
            have hblq' := lt_ext hwq hbl'
            have hlsq := hls.ext hwq
            have hJq := hJ.ext hwq
            have hJq' := hJ'.ext hwq
            have hEq := hext.next hwq
            clear d0' d1' c0 c1 c0' c1' hl3 hl4 hl5 hbl hbl' hls hJ hJ' hwq hext
            by_cases hcp : 0 < wrap (m0.c * m'.c)
            · have hwb := wrap_bounds (m0.c * m'.c)
              go_wp2
              go_region_held3 (fun w' => w'.cell? ⟨w.heap.size, 0, none⟩ = some (.slice (some ⟨b, o, none⟩) ms.length k) ∧ w'.cell? ⟨w.heap.size + 1, 0, none⟩ = some (.slice (some ⟨b', o', none⟩) ms'.length k') ∧ w'.cell? ⟨b, o + i * 2 + 1, none⟩ = some (.slice m0.A m0.xs.length m0.k) ∧ w'.cell? ⟨b', o' + j * 2 + 1, none⟩ = some (.slice m'.A m'.xs.length m'.k)) (refine ⟨?_, ?_, ?_, ?_⟩ <;> ((repeat (first | with_reducible assumption | with_reducible refine keep (Ext.alloc (Ext.refl _) _) ?_ | with_reducible refine keep (Ext.drew (Ext.refl _)) ?_ | with_reducible refine keep (Ext.drewN (Ext.refl _) _) ?_ | with_reducible refine keep (by with_reducible assumption) ?_)); done)) (first | (go_at_call 63; (refine (specMerge _ _ _ _ m0.xs m'.xs _ ((hJq.ext (by repeat (first | with_reducible assumption | with_reducible exact Ext.refl _ | with_reducible apply Ext.drewN | with_reducible apply Ext.drew | with_reducible apply Ext.alloc | with_reducible refine Ext.set ?_ (by first | (simp; done) | (simp; omega)) _ | with_reducible refine Ext.next ?_ (by with_reducible assumption)))).rk) ((hJq'.ext (by repeat (first | with_reducible assumption | with_reducible exact Ext.refl _ | with_reducible apply Ext.drewN | with_reducible apply Ext.drew | with_reducible apply Ext.alloc | with_reducible refine Ext.set ?_ (by first | (simp; done) | (simp; omega)) _ | with_reducible refine Ext.next ?_ (by with_reducible assumption)))).rk) (by omega) (by omega) hJq.2.2 HS.out HS'.out).mono ?_); rintro e w3 ⟨A3, k3, rfl, ho3, hw3⟩; (have hJ3 : RJ 3 w3 ⟨wrap (m0.c * m'.c), A3, k3, srt (m0.xs ++ m'.xs)⟩ := RJ.of_own ho3)) | (go_at_call 62; (refine (specPlus _ _ ls ⟨wrap (m0.c * m'.c), A3, k3, srt (m0.xs ++ m'.xs)⟩ _ (hlsq.ext (by repeat (first | with_reducible assumption | with_reducible exact Ext.refl _ | with_reducible apply Ext.drewN | with_reducible apply Ext.drew | with_reducible apply Ext.alloc | with_reducible refine Ext.set ?_ (by first | (simp; done) | (simp; omega)) _ | with_reducible refine Ext.next ?_ (by with_reducible assumption)))) (hJ3.ext (by repeat (first | with_reducible assumption | with_reducible exact Ext.refl _ | with_reducible apply Ext.drewN | with_reducible apply Ext.drew | with_reducible apply Ext.alloc | with_reducible refine Ext.set ?_ (by first | (simp; done) | (simp; omega)) _ | with_reducible refine Ext.next ?_ (by with_reducible assumption)))) (by omega) HLX.out (by simp only; rw [srt_length, List.length_append]; omega) HLC.out.chain (fun y hy => by have := HLC.out.coef y.dat (List.mem_map_of_mem hy); have e : y.dat.1 = y.c := rfl; omega) (by simp only; omega)).mono ?_); rintro e w4 ⟨B4, k4, ls4, rfl, ho4, hd4, hw4⟩))
              have HR := hid ho4.rn
              have HD4 : Hid (ls4.map Mn.dat = plusZ (done (ms.map Mn.dat) (ms'.map Mn.dat) i (j + 1) m0.dat)) := hid (by
                rw [done_step HMD'.out, plusZ_snoc, if_pos (show 0 < wrap (m0.dat.1 * m'.dat.1) from hcp), ← HD.out]
                exact hd4)
              have HX4 : Hid (Ext w2 w4) := hid (hEq.next (by repeat (first | with_reducible assumption | with_reducible exact Ext.refl _ | with_reducible apply Ext.drewN | with_reducible apply Ext.drew | with_reducible apply Ext.alloc | with_reducible refine Ext.set ?_ (by first | (simp; done) | (simp; omega)) _ | with_reducible refine Ext.next ?_ (by with_reducible assumption))))
              clear ho4 hd4 hlsq HD HZ
              go_wp2
              go_roundw
              case rel => exact ⟨j + 1, B4, k4, ls4, by omega, by go_num, rfl, HR.out, HD4.out, HX4.out⟩
              case measure => simp [intOf]; omega
            · have HD4 : Hid (ls.map Mn.dat = plusZ (done (ms.map Mn.dat) (ms'.map Mn.dat) i (j + 1) m0.dat)) := hid (by
                rw [done_step HMD'.out, plusZ_snoc, if_neg (show ¬ 0 < wrap (m0.dat.1 * m'.dat.1) from hcp), ← HD.out])
              clear HD HZ
              go_wp2
              go_roundw
              case rel => exact ⟨j + 1, B, kb, ls, by omega, by go_num, rfl, hlsq, HD4.out, hEq⟩
              case measure => simp [intOf]; omega
          · obtain rfl : j = ms'.length := by omega
            have HD4 : Hid (ls.map Mn.dat = plusZ (prods ((ms.map Mn.dat).take (i + 1)) (ms'.map Mn.dat))) := hid (by
              rw [HD.out, done_next HMD.out (by rw [List.length_map]; exact Nat.le_refl _)])
            clear HD HZ
            go_wp2
            go_roundw
            case rel => exact ⟨i + 1, B, kb, ls, by omega, by go_num, rfl, hls, HD4.out, hext⟩
            case measure => simp [intOf]; omega
      · obtain rfl : i = ms.length := by omega
        have HD2' : Hid (ls.map Mn.dat = plusZ (prods (ms.map Mn.dat) (ms'.map Mn.dat))) := hid (by rw [HD.out, List.take_of_length_le (l := ms.map Mn.dat) (by simp)])
        have HLX : Hid (∀ x ∈ ls, x.xs.length < 1048576) := hid fun x hx => by
          have hmd : x.dat ∈ plusZ (prods (ms.map Mn.dat) (ms'.map Mn.dat)) := HD2'.out ▸ List.mem_map_of_mem hx
          obtain ⟨y, hy, e⟩ := (plusZ_all fun m hm => prods_coef hm).2.2.2 _ hmd
          obtain ⟨u, hu, z, hz, e'⟩ := prods_mem hy
          have h1 := HD1.out u hu
          have h2 := HD2.out z hz
          have e2 : x.xs = y.2 := e
          rw [e2, e', srt_length, List.length_append]
          omega
        have e2 := keep hext d2
        have p2 := keepf hext d2 g2
        have hx3 := hx2.next hext
        clear HD d0 d1 d2 g2 h2 h2' hd
        go_wp2_with fail
        refine (specFit _ _ _ ls _ hls rfl (by omega) HLX.out).mono ?_
        rintro e w5 ⟨A5, k5, ms5, rfl, hd5, ho5, hw5⟩
        have e5 := keep hw5 e2
        have p5 := keepf hw5 e2 p2
        have HX5 := hid (hx3.next hw5)
        have HD5 : Hid (ms5.map Mn.dat = (fitP (plusZ (prods (ms.map Mn.dat) (ms'.map Mn.dat)))).1) := hid (by rw [← HD2'.out]; exact hd5)
        have HE5 : Hid ((fitP (ls.map Mn.dat)).2 = (fitP (plusZ (prods (ms.map Mn.dat) (ms'.map Mn.dat)))).2) := hid (by rw [HD2'.out])
        have HO5 := hid ((ho5.set (p := ⟨w.heap.size + 1 + 1, 0, none⟩) (by simp only; omega) (.slice A5 ms5.length k5)).base (lo' := w.heap.size) (by omega))
        rw [HE5.out]
        clear hd5 ho5 e2 p2 hls
        go_wp2
        refine bodyPost_ret (v := .tuple #[.agg #[.slice A5 ms5.length k5], .bool (fitP (plusZ (prods (ms.map Mn.dat) (ms'.map Mn.dat)))).2]) (by simp [results, Try.results14, go_sem, e5, p5]) rfl ⟨A5, k5, ms5, by rw [HP.out], by rw [HP.out]; exact HD5.out, HO5.out, HX5.out.set (by simp; omega) _⟩

theorem scl_take {n : Int} {a : List Mono} {i : Nat} {x : Mono} (h : a[i]? = some x) : scl n (a.take (i + 1)) = scl n (a.take i) ++ (if 0 < wrap (x.1 * n) then [(wrap (x.1 * n), x.2)] else []) := by
  unfold scl
  rw [take_one h, List.filterMap_append]
  congr 1
  rw [List.filterMap_cons]
  split
  · next e =>
    split at e
    · cases e
    · rename_i h0; rw [if_neg h0]; rfl
  · next e =>
    split at e
    · rename_i h0; rw [if_pos h0]; injection e with e; rw [e]; rfl
    · cases e

set_option maxRecDepth 100000 in
set_option maxHeartbeats 1000000 in
theorem specPolScale (A : Option Addr) (k : Nat) (ms : List Mn) (n : Int) (w : World) (h : RN 73 3 w A k ms) (hs : SzM ms) :
    Calls Try.prog 24 #[.agg #[.slice A ms.length k], .int .i64 n] w (RetM 73 3 w (polScale (ms.map Mn.dat) n) (fun A n k => .agg #[.slice A n k])) := by
  cases ha : polOk (ms.map Mn.dat)
  · have HP := hid (polScale_no (a := ms.map Mn.dat) (n := n) (by rw [ha]; rfl))
    have HA := hid ha
    clear ha
    go_enter Try.func24, Try.ntmps24
    go_wp2_with fail
    refine (specPolOk _ _ _ _ (h.rm.ext (by repeat (first | with_reducible assumption | with_reducible exact Ext.refl _ | with_reducible apply Ext.drewN | with_reducible apply Ext.drew | with_reducible apply Ext.alloc | with_reducible refine Ext.set ?_ (by first | (simp; done) | (simp; omega)) _ | with_reducible refine Ext.next ?_ (by with_reducible assumption)))) hs).mono ?_
    rintro e w1 ⟨rfl, hw1⟩
    rw [HA.out]
    have c2 : w1.cell? ⟨w.heap.size + 1, 0, none⟩ = some (.slice none 0 0) := keep hw1 (by go_simp)
    have f2 : w1.frozen? ⟨w.heap.size + 1, 0, none⟩ = false := (hw1.frozen (by simp)).trans (by go_simp)
    have hx : Ext w w1 := (by repeat (first | with_reducible assumption | with_reducible exact Ext.refl _ | with_reducible apply Ext.drewN | with_reducible apply Ext.drew | with_reducible apply Ext.alloc | with_reducible refine Ext.set ?_ (by first | (simp; done) | (simp; omega)) _ | with_reducible refine Ext.next ?_ (by with_reducible assumption)))
    go_wp2
    refine bodyPost_ret (v := .agg #[.slice none 0 0]) (by simp [results, Try.results24, go_sem, c2, f2]) rfl ⟨none, 0, [], rfl, by rw [HP.out]; rfl, OM.nil _ _, hx.set (by simp) _⟩
  cases hn : wrdOk n
  · have HP := hid (polScale_no (a := ms.map Mn.dat) (n := n) (by rw [ha, hn]; rfl))
    have HA := hid ha
    have HN := hid hn
    clear ha hn
    go_enter Try.func24, Try.ntmps24
    go_wp2_with fail
    refine (specPolOk _ _ _ _ (h.rm.ext (by repeat (first | with_reducible assumption | with_reducible exact Ext.refl _ | with_reducible apply Ext.drewN | with_reducible apply Ext.drew | with_reducible apply Ext.alloc | with_reducible refine Ext.set ?_ (by first | (simp; done) | (simp; omega)) _ | with_reducible refine Ext.next ?_ (by with_reducible assumption)))) hs).mono ?_
    rintro e w1 ⟨rfl, hw1⟩
    rw [HA.out]
    have c2 : w1.cell? ⟨w.heap.size + 1, 0, none⟩ = some (.slice none 0 0) := keep hw1 (by go_simp)
    have f2 : w1.frozen? ⟨w.heap.size + 1, 0, none⟩ = false := (hw1.frozen (by simp)).trans (by go_simp)
    have hx : Ext w w1 := (by repeat (first | with_reducible assumption | with_reducible exact Ext.refl _ | with_reducible apply Ext.drewN | with_reducible apply Ext.drew | with_reducible apply Ext.alloc | with_reducible refine Ext.set ?_ (by first | (simp; done) | (simp; omega)) _ | with_reducible refine Ext.next ?_ (by with_reducible assumption)))
    have hl := World.block_lt_of_cell? _ _ c2
    simp only at hl
    go_wp2_with fail
    refine (specWrdOk _ _).mono ?_
    rintro e w2 ⟨rfl, rfl⟩
    rw [HN.out]
    go_wp2
    refine bodyPost_ret (v := .agg #[.slice none 0 0]) (by simp [results, Try.results24, go_sem, c2, f2]) rfl ⟨none, 0, [], rfl, by rw [HP.out]; rfl, OM.nil _ _, hx.set (by simp) _⟩
  · obtain ⟨n1, x1, q1, a1⟩ := ok_small ha
    have HP := hid (polScale_yes ha hn)
    have HA := hid ha
    have HX1 := hid x1
    have HQ1 := hid q1
    have hnb : 0 ≤ n ∧ n ≤ 65535 := by unfold wrdOk at hn; simp at hn; omega
    have HN := hid hn
    clear ha hn x1 q1 a1
    go_enter Try.func24, Try.ntmps24
    go_wp2_with fail
    refine (specPolOk _ _ _ _ (h.rm.ext (by repeat (first | with_reducible assumption | with_reducible exact Ext.refl _ | with_reducible apply Ext.drewN | with_reducible apply Ext.drew | with_reducible apply Ext.alloc | with_reducible refine Ext.set ?_ (by first | (simp; done) | (simp; omega)) _ | with_reducible refine Ext.next ?_ (by with_reducible assumption)))) hs).mono ?_
    rintro e w1 ⟨rfl, hw1⟩
    rw [HA.out]
    have c0 : w1.cell? ⟨w.heap.size, 0, none⟩ = some (.slice A ms.length k) := keep hw1 (by go_simp)
    have c2 : w1.cell? ⟨w.heap.size + 1, 0, none⟩ = some (.slice none 0 0) := keep hw1 (by go_simp)
    have f2 : w1.frozen? ⟨w.heap.size + 1, 0, none⟩ = false := (hw1.frozen (by simp)).trans (by go_simp)
    have hx : Ext w w1 := (by repeat (first | with_reducible assumption | with_reducible exact Ext.refl _ | with_reducible apply Ext.drewN | with_reducible apply Ext.drew | with_reducible apply Ext.alloc | with_reducible refine Ext.set ?_ (by first | (simp; done) | (simp; omega)) _ | with_reducible refine Ext.next ?_ (by with_reducible assumption)))
    have hl := World.block_lt_of_cell? _ _ c2
    simp only at hl
    have h1 := h.ext hx
    have hsx := hx.size
    clear h hw1
    go_wp2_with fail
    refine (specWrdOk _ _).mono ?_
    rintro e w2 ⟨rfl, rfl⟩
    rw [HN.out]
    go_wp2
    go_loopw [5, 6, 7] (fun so sj _ wr => ∃ (j : Nat) (B : Option Addr) (kb : Nat) (os : List Mn), j ≤ ms.length ∧ sj = .int .i64 j ∧ so = .slice B os.length kb ∧ LM 73 3 wr w1.heap.size B kb os ∧ os.map Mn.dat = scl n ((ms.map Mn.dat).take j) ∧ os.length ≤ j ∧ Ext w1 wr) (fun _ sj _ _ => ms.length - (intOf sj).toNat)
    case atStart => exact ⟨0, _, _, [], Nat.zero_le _, rfl, rfl, LM.made _ (Nat.le_refl _), rfl, Nat.le_refl _, (by repeat (first | with_reducible assumption | with_reducible exact Ext.refl _ | with_reducible apply Ext.drewN | with_reducible apply Ext.drew | with_reducible apply Ext.alloc | with_reducible refine Ext.set ?_ (by first | (simp; done) | (simp; omega)) _ | with_reducible refine Ext.next ?_ (by with_reducible assumption)))⟩
    case round =>
      obtain ⟨j, B, kb, os, hj, rfl, rfl, hos, hd, hol, hext⟩ := hrel
      have HD := hid hd
      have c0' := keep hext c0
      have hlr := lt_ext hext hl
      have hsr := hext.size
      clear hd
      by_cases hlt : j < ms.length
      · obtain ⟨b, o, x, rfl, hbl, hxx, d0, d1, hJ⟩ := (h1.ext hext).at_ hlt
        have hqx := HQ1.out x (List.mem_of_getElem? hxx)
        have HXD : Hid ((ms.map Mn.dat)[j]? = some x.dat) := hid (by rw [List.getElem?_map, hxx]; rfl)
        have hc2 : 0 ≤ x.c * n ∧ x.c * n ≤ 4294836225 := by
          refine ⟨Int.mul_nonneg (by omega) hnb.1, ?_⟩
          have := Int.mul_le_mul hqx.2 hnb.2 hnb.1 (by omega)
          omega
        clear hxx
        go_wp2_with fail
        refine (specWrdWrap _ _).mono ?_
        rintro e w3 ⟨rfl, rfl⟩
        by_cases hcp : 0 < wrap (x.c * n)
        · have hJ3 : RJ 3 wr ⟨wrap (x.c * n), x.A, x.k, x.xs⟩ := hJ
          go_wp2_with (at_builtin; (refine app_mono (by decide) Try.underlying23 info_mono rfl _ _ rfl w1.heap.size B kb os (hos.ext (by repeat (first | with_reducible assumption | with_reducible exact Ext.refl _ | with_reducible apply Ext.drewN | with_reducible apply Ext.drew | with_reducible apply Ext.alloc | with_reducible refine Ext.set ?_ (by first | (simp; done) | (simp; omega)) _ | with_reducible refine Ext.next ?_ (by with_reducible assumption)))) os.length rfl rfl ⟨wrap (x.c * n), x.A, x.k, x.xs⟩ ⟨wr.heap.size, 0, none⟩ 1 rfl (by rw [addr_add]; go_simp) (by rw [addr_add]; go_simp) (hJ3.ext (by repeat (first | with_reducible assumption | with_reducible exact Ext.refl _ | with_reducible apply Ext.drewN | with_reducible apply Ext.drew | with_reducible apply Ext.alloc | with_reducible refine Ext.set ?_ (by first | (simp; done) | (simp; omega)) _ | with_reducible refine Ext.next ?_ (by with_reducible assumption)))) (by omega) (by simp; omega) ?_); (intro B5 kb5 w5 ho5 hu5))
          have HX5 := hid (((Upd.of_ext (hext.next (by repeat (first | with_reducible assumption | with_reducible exact Ext.refl _ | with_reducible apply Ext.drewN | with_reducible apply Ext.drew | with_reducible apply Ext.alloc | with_reducible refine Ext.set ?_ (by first | (simp; done) | (simp; omega)) _ | with_reducible refine Ext.next ?_ (by with_reducible assumption))))).next hu5).ext fun y hy => (own_atB hos.1 hy).1)
          have HO5 := hid ho5
          have HD5 : Hid ((os ++ [(⟨wrap (x.c * n), x.A, x.k, x.xs⟩ : Mn)]).map Mn.dat = scl n ((ms.map Mn.dat).take (j + 1))) := hid (by rw [scl_take HXD.out, if_pos (show 0 < wrap (x.dat.1 * n) from hcp), ← HD.out, List.map_append]; rfl)
          clear ho5 hu5
          go_wp2
          go_roundw
          case rel => exact ⟨j + 1, B5, kb5, _, by omega, by go_num, by simp, HO5.out, HD5.out, by simp; omega, HX5.out⟩
          case measure => simp [intOf]; omega
        · have HD5 : Hid (os.map Mn.dat = scl n ((ms.map Mn.dat).take (j + 1))) := hid (by rw [scl_take HXD.out, if_neg (show ¬ 0 < wrap (x.dat.1 * n) from hcp), ← HD.out, List.append_nil])
          clear HD
          go_wp2
          go_roundw
          case rel => exact ⟨j + 1, B, kb, os, by omega, by go_num, rfl, hos, HD5.out, by omega, hext⟩
          case measure => simp [intOf]; omega
      · obtain rfl : j = ms.length := by omega
        have HD5 : Hid (os.map Mn.dat = polScale (ms.map Mn.dat) n) := hid (by rw [HP.out, HD.out, List.take_of_length_le (l := ms.map Mn.dat) (by simp)])
        have HLX : Hid (∀ x ∈ os, x.xs.length < 1048576) := hid fun x hx => by
          have hmd : x.dat ∈ scl n ((ms.map Mn.dat).take ms.length) := HD.out ▸ List.mem_map_of_mem hx
          obtain ⟨_, y, hy, e⟩ := scl_mem hmd
          obtain ⟨z, hz, rfl⟩ := List.mem_map.1 (List.mem_of_mem_take hy)
          have h1 := HX1.out z hz
          have e2 : x.xs = z.xs := e
          rw [e2]; omega
        have e2 := keep hext c2
        have p2 := keepf hext c2 f2
        have hx3 := hx.next hext
        clear c2 f2 h1 HD
        go_wp2_with fail
        refine (specCopy _ _ os _ hos.rn (by omega) HLX.out).mono ?_
        rintro e w5 ⟨A5, k5, ms5, rfl, hd5, ho5, hw5⟩
        have e5 := keep hw5 e2
        have p5 := keepf hw5 e2 p2
        have HX5 := hid (hx3.next hw5)
        have HD6 : Hid (ms5.map Mn.dat = polScale (ms.map Mn.dat) n) := hid (by rw [hd5, HD5.out])
        have HO5 := hid ((ho5.set (p := ⟨w.heap.size + 1, 0, none⟩) (by simp only; omega) (.slice A5 ms5.length k5)).base (lo' := w.heap.size) (by omega))
        clear hd5 ho5 e2 p2 hos
        go_wp2
        refine bodyPost_ret (v := .agg #[.slice A5 ms5.length k5]) (by simp [results, Try.results24, go_sem, e5, p5]) rfl ⟨A5, k5, ms5, rfl, HD6.out, HO5.out, HX5.out.set (by simp) _⟩
end Go.Proofs.Ytcgelcaepkakaaa
