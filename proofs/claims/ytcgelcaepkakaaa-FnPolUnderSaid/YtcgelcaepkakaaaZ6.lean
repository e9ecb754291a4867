/- Contracts of the reference's own l4Fit, PolAdd, l4Merge, PolMul, PolScale. Conditions: lengths that a machine can hold. -/
import Derived.Test.YtcgelcaepkakaaaZ5
namespace Go.Proofs.Ytcgelcaepkakaaa
open Go Go.RowKit
set_option linter.unusedVariables false
set_option linter.unusedSimpArgs false

theorem fit_many {p : List Mono} (h : 12 < p.length) : fitP p = ([], false) := by unfold fitP fitB; rw [decide_eq_false (by omega)]; rfl
theorem fit_deg {p : List Mono} {m : Mono} (hm : m ∈ p) (h : 4 < m.2.length) : fitP p = ([], false) := by
  have : (p.all fun m => decide (m.2.length ≤ 4)) = false := List.all_eq_false.2 ⟨m, hm, by simp; omega⟩
  unfold fitP fitB
  rw [this, Bool.and_false]
  rfl
theorem fit_ok {p : List Mono} (h : p.length ≤ 12) (k : ∀ m ∈ p, m.2.length ≤ 4) : fitP p = (p, true) := fitP_true (by
  unfold fitB
  rw [Bool.and_eq_true]
  exact ⟨decide_eq_true h, List.all_eq_true.2 fun m hm => decide_eq_true (k m hm)⟩)

set_option maxRecDepth 100000 in
set_option maxHeartbeats 1000000 in
theorem specFit (A : Option Addr) (k n : Nat) (ms : List Mn) (w : World) (h : RN 73 3 w A k ms) (hl : ms.length = n) (hn : ms.length < 1048576) (hx : ∀ x ∈ ms, x.xs.length < 1048576) :
    Calls Try.prog 64 #[.slice A n k] w (RetQ 73 3 w (fitP (ms.map Mn.dat))) := by
  subst hl
  have HX := hid hx
  clear hx
  by_cases hm : 12 < ms.length
  · have HF := hid (fit_many (p := ms.map Mn.dat) (by rw [List.length_map]; exact hm))
    go_enter Try.func64, Try.ntmps64
    go_wp2
    refine bodyPost_ret (v := .tuple #[.agg #[.slice none 0 0], .bool false]) (by simp [results, Try.results64, go_sem]) rfl ⟨none, 0, [], by rw [HF.out]; rfl, by rw [HF.out]; rfl, OM.nil _ _, (by repeat (first | with_reducible assumption | with_reducible exact Ext.refl _ | with_reducible apply Ext.drewN | with_reducible apply Ext.drew | with_reducible apply Ext.alloc | with_reducible refine Ext.set ?_ (by first | (simp; done) | (simp; omega)) _ | with_reducible refine Ext.next ?_ (by with_reducible assumption)))⟩
  · go_enter Try.func64, Try.ntmps64
    go_wp2
    go_loop [4] (fun sj => ∃ j : Nat, j ≤ ms.length ∧ sj = .int .i64 j ∧ ∀ t, t < j → ∀ y, ms[t]? = some y → y.xs.length ≤ 4) (fun sj => ms.length - (intOf sj).toNat)
    case atStart => exact ⟨0, Nat.zero_le _, rfl, fun t ht => absurd ht (by omega)⟩
    case round =>
      obtain ⟨j, hj, rfl, hall⟩ := hrel
      have HA := hid hall
      clear hall
      by_cases hlt : j < ms.length
      · obtain ⟨b, o, x, rfl, hbl, hxx, c0, c1, hJ⟩ := h.at_ hlt
        have hxl := HX.out x (List.mem_of_getElem? hxx)
        have HXX := hid hxx
        clear hxx h
        by_cases h4 : 4 < x.xs.length
        · have HF := hid (fit_deg (p := ms.map Mn.dat) (m := x.dat) (List.mem_map_of_mem (List.mem_of_getElem? HXX.out)) h4)
          go_wp2
          refine bodyPost_ret (v := .tuple #[.agg #[.slice none 0 0], .bool false]) (by simp [results, Try.results64, go_sem]) rfl ⟨none, 0, [], by rw [HF.out]; rfl, by rw [HF.out]; rfl, OM.nil _ _, (by repeat (first | with_reducible assumption | with_reducible exact Ext.refl _ | with_reducible apply Ext.drewN | with_reducible apply Ext.drew | with_reducible apply Ext.alloc | with_reducible refine Ext.set ?_ (by first | (simp; done) | (simp; omega)) _ | with_reducible refine Ext.next ?_ (by with_reducible assumption)))⟩
        · go_wp2
          go_round
          case rel => exact ⟨j + 1, by omega, by go_num, lt_step HA.out HXX.out (by omega)⟩
          case measure => simp [intOf]; omega
      · have HF : Hid (fitP (ms.map Mn.dat) = (ms.map Mn.dat, true)) := hid (fit_ok (by rw [List.length_map]; omega) fun m hm => by
          obtain ⟨y, hy, rfl⟩ := List.mem_map.1 hm
          obtain ⟨t, ht, rfl⟩ := List.getElem_of_mem hy
          exact HA.out t (by omega) _ (List.getElem?_eq_getElem ht))
        clear HA
        go_wp2_with fail
        refine (specCopy _ _ ms _ (h.ext (by repeat (first | with_reducible assumption | with_reducible exact Ext.refl _ | with_reducible apply Ext.drewN | with_reducible apply Ext.drew | with_reducible apply Ext.alloc | with_reducible refine Ext.set ?_ (by first | (simp; done) | (simp; omega)) _ | with_reducible refine Ext.next ?_ (by with_reducible assumption)))) hn HX.out).mono ?_
        rintro e w1 ⟨A1, k1, ms1, rfl, hd1, ho1, hw1⟩
        have c0 : w1.cell? ⟨w.heap.size, 0, none⟩ = some (.slice none 0 0) := keep hw1 (by go_simp)
        have f0 : w1.frozen? ⟨w.heap.size, 0, none⟩ = false := (hw1.frozen (by simp)).trans (by go_simp)
        have HD := hid hd1
        have HO := hid ((ho1.set (p := ⟨w.heap.size, 0, none⟩) (by simp) (.slice A1 ms1.length k1)).base (lo' := w.heap.size) (by simp))
        have hx1 : Ext w w1 := (by repeat (first | with_reducible assumption | with_reducible exact Ext.refl _ | with_reducible apply Ext.drewN | with_reducible apply Ext.drew | with_reducible apply Ext.alloc | with_reducible refine Ext.set ?_ (by first | (simp; done) | (simp; omega)) _ | with_reducible refine Ext.next ?_ (by with_reducible assumption)))
        clear hd1 ho1
        go_wp2
        refine bodyPost_ret (v := .tuple #[.agg #[.slice A1 ms1.length k1], .bool true]) (by simp [results, Try.results64, go_sem, c0, f0]) rfl ⟨A1, k1, ms1, by rw [HF.out], by rw [HF.out]; exact HD.out, HO.out, hx1.set (Nat.le_refl _) _⟩

/-! ### sums of parts -/
def plusL (a b : List Mono) : List Mono := b.foldl plus a
theorem plusL_take {a b : List Mono} {j : Nat} {x : Mono} (h : b[j]? = some x) : plusL a (b.take (j + 1)) = plus (plusL a (b.take j)) x := fold_take a h
theorem plusL_cong : ∀ (b a : List Mono), Cong (plusL a b) (a ++ b)
  | [], a => by rw [List.append_nil]; exact Cong.refl _
  | m :: b, a => by
    have h1 := plusL_cong b (plus a m)
    have h2 : Cong (plus a m ++ b) (a ++ m :: b) := fun φ => by
      rw [lin_append, lin_append, ← wrap_add_left, plus_lin, wrap_add_left]
      congr 1
      simp only [lin]
      omega
    exact h1.trans h2
theorem plusL_canon : ∀ {b a : List Mono}, Canon a → (∀ m ∈ b, 1 ≤ m.1 ∧ m.1 ≤ 65535) → Canon (plusL a b)
  | [], a, h, _ => h
  | m :: b, a, h, k => plusL_canon (b := b) (a := plus a m) (plus_canon (k m List.mem_cons_self) h) fun x hx => k x (List.mem_cons_of_mem _ hx)
theorem plusL_norm {a b : List Mono} (h : Canon a) (k : ∀ m ∈ b, 1 ≤ m.1 ∧ m.1 ≤ 65535) : plusL a b = norm (a ++ b) := norm_unique (plusL_canon h k) (plusL_cong b a)
theorem plusL_mem : ∀ {b a : List Mono} {y : Mono}, y ∈ plusL a b → ∃ x ∈ a ++ b, y.2 = x.2
  | [], a, y, h => ⟨y, by rw [List.append_nil]; exact h, rfl⟩
  | m :: b, a, y, h => by
    obtain ⟨x, hx, e⟩ := plusL_mem (b := b) (a := plus a m) h
    rcases List.mem_append.1 hx with hx | hx
    · rcases plus_mem hx with e' | ⟨z, hz, e'⟩
      · exact ⟨m, by simp, e.trans e'⟩
      · exact ⟨z, List.mem_append_left _ hz, e.trans e'⟩
    · exact ⟨x, List.mem_append_right _ (List.mem_cons_of_mem _ hx), e⟩
theorem plusL_length : ∀ (b a : List Mono), (plusL a b).length ≤ a.length + b.length
  | [], a => Nat.le_refl _
  | m :: b, a => by
    have h1 := plusL_length b (plus a m)
    have h2 := plus_length m a
    simp only [List.length_cons]
    unfold plusL at *
    rw [List.foldl_cons]
    omega

set_option maxRecDepth 100000 in
set_option maxHeartbeats 1000000 in
theorem specPolAdd (A A' : Option Addr) (k k' : Nat) (ms ms' : List Mn) (w : World) (h : RN 73 3 w A k ms) (h' : RN 73 3 w A' k' ms') (hs : SzM ms) (hs' : SzM ms') :
    Calls Try.prog 29 #[.agg #[.slice A ms.length k], .agg #[.slice A' ms'.length k']] w (RetQ 73 3 w (polAdd (ms.map Mn.dat) (ms'.map Mn.dat))) := by
  cases ha : polOk (ms.map Mn.dat)
  · have HP := hid (polAdd_no (a := ms.map Mn.dat) (b := ms'.map Mn.dat) (by rw [ha]; rfl))
    have HA := hid ha
    clear ha
    go_enter Try.func29, Try.ntmps29
    go_wp2_with fail
    refine (specPolOk _ _ _ _ (h.rm.ext (by repeat (first | with_reducible assumption | with_reducible exact Ext.refl _ | with_reducible apply Ext.drewN | with_reducible apply Ext.drew | with_reducible apply Ext.alloc | with_reducible refine Ext.set ?_ (by first | (simp; done) | (simp; omega)) _ | with_reducible refine Ext.next ?_ (by with_reducible assumption)))) hs).mono ?_
    rintro e w1 ⟨rfl, hw1⟩
    rw [HA.out]
    have c2 : w1.cell? ⟨w.heap.size + 1 + 1, 0, none⟩ = some (.slice none 0 0) := keep hw1 (by go_simp)
    have f2 : w1.frozen? ⟨w.heap.size + 1 + 1, 0, none⟩ = false := (hw1.frozen (by simp)).trans (by go_simp)
    have hx : Ext w w1 := (by repeat (first | with_reducible assumption | with_reducible exact Ext.refl _ | with_reducible apply Ext.drewN | with_reducible apply Ext.drew | with_reducible apply Ext.alloc | with_reducible refine Ext.set ?_ (by first | (simp; done) | (simp; omega)) _ | with_reducible refine Ext.next ?_ (by with_reducible assumption)))
    go_wp2
    refine bodyPost_ret (v := .tuple #[.agg #[.slice none 0 0], .bool false]) (by simp [results, Try.results29, go_sem, c2, f2]) rfl ⟨none, 0, [], by rw [HP.out]; rfl, by rw [HP.out]; rfl, OM.nil _ _, hx.set (by simp; omega) _⟩
  cases hb : polOk (ms'.map Mn.dat)
  · have HP := hid (polAdd_no (a := ms.map Mn.dat) (b := ms'.map Mn.dat) (by rw [ha, hb]; rfl))
    have HA := hid ha
    have HB := hid hb
    clear ha hb
    go_enter Try.func29, Try.ntmps29
    go_wp2_with fail
    refine (specPolOk _ _ _ _ (h.rm.ext (by repeat (first | with_reducible assumption | with_reducible exact Ext.refl _ | with_reducible apply Ext.drewN | with_reducible apply Ext.drew | with_reducible apply Ext.alloc | with_reducible refine Ext.set ?_ (by first | (simp; done) | (simp; omega)) _ | with_reducible refine Ext.next ?_ (by with_reducible assumption)))) hs).mono ?_
    rintro e w1 ⟨rfl, hw1⟩
    rw [HA.out]
    have c1 : w1.cell? ⟨w.heap.size + 1, 0, none⟩ = some (.slice A' ms'.length k') := keep hw1 (by go_simp)
    have c2 : w1.cell? ⟨w.heap.size + 1 + 1, 0, none⟩ = some (.slice none 0 0) := keep hw1 (by go_simp)
    have f2 : w1.frozen? ⟨w.heap.size + 1 + 1, 0, none⟩ = false := (hw1.frozen (by simp)).trans (by go_simp)
    have hx : Ext w w1 := (by repeat (first | with_reducible assumption | with_reducible exact Ext.refl _ | with_reducible apply Ext.drewN | with_reducible apply Ext.drew | with_reducible apply Ext.alloc | with_reducible refine Ext.set ?_ (by first | (simp; done) | (simp; omega)) _ | with_reducible refine Ext.next ?_ (by with_reducible assumption)))
    have hl := World.block_lt_of_cell? _ _ c2
    simp only at hl
    go_wp2_with fail
    refine (specPolOk _ _ _ _ (h'.rm.ext (by repeat (first | with_reducible assumption | with_reducible exact Ext.refl _ | with_reducible apply Ext.drewN | with_reducible apply Ext.drew | with_reducible apply Ext.alloc | with_reducible refine Ext.set ?_ (by first | (simp; done) | (simp; omega)) _ | with_reducible refine Ext.next ?_ (by with_reducible assumption)))) hs').mono ?_
    rintro e w2 ⟨rfl, hw2⟩
    rw [HB.out]
    have d2 := keep hw2 c2
    have g2 := keepf hw2 c2 f2
    have hx2 := hx.next hw2
    clear c1 c2 f2
    go_wp2
    refine bodyPost_ret (v := .tuple #[.agg #[.slice none 0 0], .bool false]) (by simp [results, Try.results29, go_sem, d2, g2]) rfl ⟨none, 0, [], by rw [HP.out]; rfl, by rw [HP.out]; rfl, OM.nil _ _, hx2.set (by simp; omega) _⟩
  · obtain ⟨n1, x1, q1, a1⟩ := ok_small ha
    obtain ⟨n2, x2, q2, a2⟩ := ok_small hb
    have hcb : ∀ m ∈ ms'.map Mn.dat, 1 ≤ m.1 ∧ m.1 ≤ 65535 := fun m hm => (polOk_canon hb).coef m hm
    have HP : Hid (polAdd (ms.map Mn.dat) (ms'.map Mn.dat) = fitP (plusL (ms.map Mn.dat) (ms'.map Mn.dat))) := hid (by rw [polAdd_yes ha hb, plusL_norm (polOk_canon ha) hcb])
    have HA := hid ha
    have HB := hid hb
    have HX1 := hid x1
    have HX2 := hid x2
    have HQ2 := hid q2
    have HCB := hid hcb
    clear ha hb x1 x2 q1 q2 a1 a2 hcb
    go_enter Try.func29, Try.ntmps29
    go_wp2_with fail
    refine (specPolOk _ _ _ _ (h.rm.ext (by repeat (first | with_reducible assumption | with_reducible exact Ext.refl _ | with_reducible apply Ext.drewN | with_reducible apply Ext.drew | with_reducible apply Ext.alloc | with_reducible refine Ext.set ?_ (by first | (simp; done) | (simp; omega)) _ | with_reducible refine Ext.next ?_ (by with_reducible assumption)))) hs).mono ?_
    rintro e w1 ⟨rfl, hw1⟩
    rw [HA.out]
    have c0 : w1.cell? ⟨w.heap.size, 0, none⟩ = some (.slice A ms.length k) := keep hw1 (by go_simp)
    have c1 : w1.cell? ⟨w.heap.size + 1, 0, none⟩ = some (.slice A' ms'.length k') := keep hw1 (by go_simp)
    have c2 : w1.cell? ⟨w.heap.size + 1 + 1, 0, none⟩ = some (.slice none 0 0) := keep hw1 (by go_simp)
    have f2 : w1.frozen? ⟨w.heap.size + 1 + 1, 0, none⟩ = false := (hw1.frozen (by simp)).trans (by go_simp)
    have hx : Ext w w1 := (by repeat (first | with_reducible assumption | with_reducible exact Ext.refl _ | with_reducible apply Ext.drewN | with_reducible apply Ext.drew | with_reducible apply Ext.alloc | with_reducible refine Ext.set ?_ (by first | (simp; done) | (simp; omega)) _ | with_reducible refine Ext.next ?_ (by with_reducible assumption)))
    have hl := World.block_lt_of_cell? _ _ c2
    simp only at hl
    go_wp2_with fail
    refine (specPolOk _ _ _ _ (h'.rm.ext (by repeat (first | with_reducible assumption | with_reducible exact Ext.refl _ | with_reducible apply Ext.drewN | with_reducible apply Ext.drew | with_reducible apply Ext.alloc | with_reducible refine Ext.set ?_ (by first | (simp; done) | (simp; omega)) _ | with_reducible refine Ext.next ?_ (by with_reducible assumption)))) hs').mono ?_
    rintro e w2 ⟨rfl, hw2⟩
    rw [HB.out]
    have d0 := keep hw2 c0
    have d1 := keep hw2 c1
    have d2 := keep hw2 c2
    have g2 := keepf hw2 c2 f2
    have hl2 := lt_ext hw2 hl
    have hx2 := hx.next hw2
    have h2 := h.ext hx2
    have h2' := h'.ext hx2
    clear c0 c1 c2 f2 h h' hw1 hw2 hx hl hs hs'
    go_wp2
    go_loopw [6, 7] (fun sl sj wr => ∃ (j : Nat) (B : Option Addr) (kb : Nat) (ls : List Mn), j ≤ ms'.length ∧ sj = .int .i64 j ∧ sl = .slice B ls.length kb ∧ RN 73 3 wr B kb ls ∧ ls.map Mn.dat = plusL (ms.map Mn.dat) ((ms'.map Mn.dat).take j) ∧ Ext w2 wr) (fun _ sj _ => ms'.length - (intOf sj).toNat)
    case atStart => exact ⟨0, A, k, ms, Nat.zero_le _, rfl, rfl, h2, rfl, Ext.refl _⟩
    case round =>
      obtain ⟨j, B, kb, ls, hj, rfl, rfl, hls, hd, hext⟩ := hrel
      have HD := hid hd
      have hll : ls.length ≤ 24 := by
        have := plusL_length ((ms'.map Mn.dat).take j) (ms.map Mn.dat)
        rw [dat_len hd]
        rw [List.length_take, List.length_map, List.length_map] at this
        omega
      have HLX : Hid (∀ x ∈ ls, x.xs.length < 1048576) := hid fun x hx => by
        have hmd : x.dat ∈ plusL (ms.map Mn.dat) ((ms'.map Mn.dat).take j) := hd ▸ List.mem_map_of_mem hx
        obtain ⟨y, hy, e⟩ := plusL_mem hmd
        have e' : x.xs = y.2 := e
        rcases List.mem_append.1 hy with hy | hy
        · obtain ⟨z, hz, rfl⟩ := List.mem_map.1 hy
          have := HX1.out z hz
          have e2 : x.xs = z.xs := e'
          rw [e2]; omega
        · obtain ⟨z, hz, rfl⟩ := List.mem_map.1 (List.mem_of_mem_take hy)
          have := HX2.out z hz
          have e2 : x.xs = z.xs := e'
          rw [e2]; omega
      have HLC : Hid (Canon (ls.map Mn.dat)) := hid (by rw [hd]; exact plusL_canon (polOk_canon HA.out) fun m hm => HCB.out m (List.mem_of_mem_take hm))
      clear hd
      have d0' := keep hext d0
      have d1' := keep hext d1
      have hl3 := lt_ext hext hl2
      have hl4 : w.heap.size + 1 < wr.heap.size := by omega
      by_cases hlt : j < ms'.length
      · obtain ⟨b, o, x, rfl, hbl, hxx, c0, c1, hJ⟩ := (h2'.ext hext).at_ hlt
        have hxl := HX2.out x (List.mem_of_getElem? hxx)
        have hqx := HQ2.out x (List.mem_of_getElem? hxx)
        have HXD : Hid ((ms'.map Mn.dat)[j]? = some x.dat) := hid (by rw [List.getElem?_map, hxx]; rfl)
        clear hxx
        go_wp2_with fail
        refine (specPlus _ _ ls x _ (hls.ext (by repeat (first | with_reducible assumption | with_reducible exact Ext.refl _ | with_reducible apply Ext.drewN | with_reducible apply Ext.drew | with_reducible apply Ext.alloc | with_reducible refine Ext.set ?_ (by first | (simp; done) | (simp; omega)) _ | with_reducible refine Ext.next ?_ (by with_reducible assumption)))) (hJ.ext (by repeat (first | with_reducible assumption | with_reducible exact Ext.refl _ | with_reducible apply Ext.drewN | with_reducible apply Ext.drew | with_reducible apply Ext.alloc | with_reducible refine Ext.set ?_ (by first | (simp; done) | (simp; omega)) _ | with_reducible refine Ext.next ?_ (by with_reducible assumption)))) (by omega) HLX.out (by omega) HLC.out.chain (fun y hy => by have := HLC.out.coef y.dat (List.mem_map_of_mem hy); have e : y.dat.1 = y.c := rfl; omega) (by omega)).mono ?_
        rintro e w3 ⟨B3, k3, ls3, rfl, ho3, hd3, hw3⟩
        have HR := hid ho3.rn
        have HD3 : Hid (ls3.map Mn.dat = plusL (ms.map Mn.dat) ((ms'.map Mn.dat).take (j + 1))) := hid (by rw [plusL_take HXD.out, ← HD.out]; exact hd3)
        have HX3 := hid (hext.next hw3)
        clear ho3 hd3 hls
        go_wp2
        go_roundw
        case rel => exact ⟨j + 1, B3, k3, ls3, by omega, by go_num, rfl, HR.out, HD3.out, HX3.out⟩
        case measure => simp [intOf]; omega
      · obtain rfl : j = ms'.length := by omega
        have HD2 : Hid (ls.map Mn.dat = plusL (ms.map Mn.dat) (ms'.map Mn.dat)) := hid (by rw [HD.out, List.take_of_length_le (l := ms'.map Mn.dat) (by simp)])
        have e2 := keep hext d2
        have p2 := keepf hext d2 g2
        have hx3 := hx2.next hext
        clear HD d0 d1 d2 g2 h2 h2'
        go_wp2_with fail
        refine (specFit _ _ _ ls _ hls rfl (by omega) HLX.out).mono ?_
        rintro e w5 ⟨A5, k5, ms5, rfl, hd5, ho5, hw5⟩
        have e5 := keep hw5 e2
        have p5 := keepf hw5 e2 p2
        have HX5 := hid (hx3.next hw5)
        have HD5 : Hid (ms5.map Mn.dat = (fitP (plusL (ms.map Mn.dat) (ms'.map Mn.dat))).1) := hid (by rw [← HD2.out]; exact hd5)
        have HE5 : Hid ((fitP (ls.map Mn.dat)).2 = (fitP (plusL (ms.map Mn.dat) (ms'.map Mn.dat))).2) := hid (by rw [HD2.out])
        have HO5 := hid ((ho5.set (p := ⟨w.heap.size + 1 + 1, 0, none⟩) (by simp only; omega) (.slice A5 ms5.length k5)).base (lo' := w.heap.size) (by omega))
        rw [HE5.out]
        clear hd5 ho5 e2 p2 hls
        go_wp2
        refine bodyPost_ret (v := .tuple #[.agg #[.slice A5 ms5.length k5], .bool (fitP (plusL (ms.map Mn.dat) (ms'.map Mn.dat))).2]) (by simp [results, Try.results29, go_sem, e5, p5]) rfl ⟨A5, k5, ms5, by rw [HP.out], by rw [HP.out]; exact HD5.out, HO5.out, HX5.out.set (by simp; omega) _⟩
end Go.Proofs.Ytcgelcaepkakaaa
