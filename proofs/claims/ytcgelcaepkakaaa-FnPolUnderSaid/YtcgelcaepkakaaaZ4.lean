/- Contracts of the reference's own l4Plus, l4Copy, l4Fit. Conditions: lengths that a machine can hold; parts in order. -/
import Derived.Test.YtcgelcaepkakaaaZ3
namespace Go.Proofs.Ytcgelcaepkakaaa
open Go Go.RowKit
set_option linter.unusedVariables false
set_option linter.unusedSimpArgs false

theorem plus_past {m : Mono} {r : List Mono} : ∀ {l : List Mono}, (∀ y ∈ l, 0 < aOrd m.2 y.2) → plus (l ++ r) m = l ++ plus r m
  | [], _ => rfl
  | x :: l, h => by
    have h1 := h x List.mem_cons_self
    rw [List.cons_append, plus, if_neg (by omega), if_neg (by omega), plus_past fun y hy => h y (List.mem_cons_of_mem _ hy)]
    rfl
theorem plus_in {m : Mono} {r : List Mono} : ∀ {l : List Mono}, (∃ y ∈ l, aOrd m.2 y.2 ≤ 0) → plus (l ++ r) m = plus l m ++ r
  | [], h => by obtain ⟨y, hy, _⟩ := h; cases hy
  | x :: l, h => by
    rw [List.cons_append, plus, plus]
    by_cases h1 : aOrd m.2 x.2 < 0
    · rw [if_pos h1, if_pos h1]; rfl
    · rw [if_neg h1, if_neg h1]
      by_cases h2 : aOrd m.2 x.2 = 0
      · rw [if_pos h2, if_pos h2]
        split <;> rfl
      · rw [if_neg h2, if_neg h2, plus_in]
        · rfl
        · obtain ⟨y, hy, hle⟩ := h
          rcases List.mem_cons.1 hy with rfl | hy
          · omega
          · exact ⟨y, hy, hle⟩
theorem plus_one (x m : Mono) : plus [x] m = if aOrd m.2 x.2 < 0 then [m, x] else if aOrd m.2 x.2 = 0 then (if 0 < wrap (x.1 + m.1) then [(wrap (x.1 + m.1), x.2)] else []) else [x, m] := rfl
/-- Where the putting in of a part stands. -/
def PlusI (L : List Mono) (m : Mono) (j : Nat) (d : Bool) (out : List Mono) : Prop :=
  (d = false ∧ out = L.take j ∧ ∀ y ∈ L.take j, 0 < aOrd m.2 y.2) ∨ (d = true ∧ out = plus (L.take j) m ∧ ∃ y ∈ L.take j, aOrd m.2 y.2 ≤ 0)
theorem take_one {L : List Mono} {j : Nat} {x : Mono} (h : L[j]? = some x) : L.take (j + 1) = L.take j ++ [x] := by
  rw [List.take_add_one, h]
  rfl
theorem chain_at : ∀ {L : List Mono} {t j : Nat} {y x : Mono}, chainB L = true → t < j → L[t]? = some y → L[j]? = some x → aOrd y.2 x.2 < 0
  | [], t, j, y, x, _, _, h, _ => by simp at h
  | a :: l, 0, j + 1, y, x, hc, _, h, h' => by
    simp at h
    subst h
    exact chain_lt hc x (List.mem_of_getElem? (by simpa using h'))
  | a :: l, t + 1, j + 1, y, x, hc, hlt, h, h' => chain_at (t := t) (j := j) (chain_tail hc) (by omega) (by simpa using h) (by simpa using h')
section
variable {L : List Mono} {m x : Mono} {j : Nat} {out : List Mono} (hx : L[j]? = some x)
include hx
theorem plusI_less (h : PlusI L m j false out) (ho : aOrd m.2 x.2 < 0) : PlusI L m (j + 1) true (out ++ [m] ++ [x]) := by
  rcases h with ⟨_, rfl, h⟩ | ⟨h, _⟩
  · refine .inr ⟨rfl, ?_, x, by rw [take_one hx]; simp, by omega⟩
    rw [take_one hx, plus_past h, plus_one, if_pos ho, List.append_assoc]
    rfl
  · cases h
theorem plusI_same (h : PlusI L m j false out) (ho : aOrd m.2 x.2 = 0) : PlusI L m (j + 1) true (if 0 < wrap (x.1 + m.1) then out ++ [(wrap (x.1 + m.1), x.2)] else out) := by
  rcases h with ⟨_, rfl, h⟩ | ⟨h, _⟩
  · refine .inr ⟨rfl, ?_, x, by rw [take_one hx]; simp, by omega⟩
    rw [take_one hx, plus_past h, plus_one, if_neg (show ¬ aOrd m.2 x.2 < 0 by omega), if_pos ho]
    split
    · rfl
    · rw [List.append_nil]
  · cases h
theorem plusI_more (h : PlusI L m j false out) (ho : 0 < aOrd m.2 x.2) : PlusI L m (j + 1) false (out ++ [x]) := by
  rcases h with ⟨_, rfl, h⟩ | ⟨h, _⟩
  · refine .inl ⟨rfl, (take_one hx).symm, fun y hy => ?_⟩
    rw [take_one hx] at hy
    rcases List.mem_append.1 hy with hy | hy
    · exact h y hy
    · rw [List.mem_singleton.1 hy]; exact ho
  · cases h
theorem plusI_done (h : PlusI L m j true out) : PlusI L m (j + 1) true (out ++ [x]) := by
  rcases h with ⟨h, _⟩ | ⟨_, rfl, y, hy, hle⟩
  · cases h
  · refine .inr ⟨rfl, ?_, y, by rw [take_one hx]; exact List.mem_append_left _ hy, hle⟩
    rw [take_one hx, plus_in ⟨y, hy, hle⟩]
theorem plusI_lt (hc : chainB L = true) (h : PlusI L m j true out) : aOrd m.2 x.2 < 0 := by
  rcases h with ⟨h, _⟩ | ⟨_, _, y, hy, hle⟩
  · cases h
  · obtain ⟨t, ht, e⟩ := List.getElem_of_mem hy
    rw [List.length_take] at ht
    rw [List.getElem_take] at e
    have hlt : aOrd y.2 x.2 < 0 := by
      rw [← e]
      exact chain_at hc (by omega) (List.getElem?_eq_getElem (by omega)) hx
    rcases Int.lt_or_eq_of_le hle with h1 | h1
    · exact aOrd_trans h1 hlt
    · rw [aOrd_eq h1]; exact hlt
end

theorem plusI_end {L : List Mono} {m : Mono} {j : Nat} {d : Bool} {out : List Mono} (h : PlusI L m j d out) (hj : L.length ≤ j) : (if d then out else out ++ [m]) = plus L m := by
  rcases h with ⟨rfl, rfl, h⟩ | ⟨rfl, rfl, _⟩
  · rw [List.take_of_length_le hj] at h ⊢
    have := plus_past (r := []) h
    rw [List.append_nil] at this
    rw [this]
    rfl
  · rw [List.take_of_length_le hj]
    rfl

set_option maxRecDepth 100000 in
set_option maxHeartbeats 2000000 in
theorem specPlus (A : Option Addr) (k : Nat) (ms : List Mn) (m : Mn) (w : World) (h : RN 73 3 w A k ms) (hm : RJ 3 w m) (hn : ms.length < 1048576) (hx : ∀ x ∈ ms, x.xs.length < 1048576) (hxm : m.xs.length < 1048576)
    (hch : chainB (ms.map Mn.dat) = true) (hc : ∀ x ∈ ms, 0 ≤ x.c ∧ x.c ≤ 65535) (hcm : 0 ≤ m.c ∧ m.c ≤ 65535) :
    Calls Try.prog 62 #[.slice A ms.length k, .agg #[.int .i64 m.c, .slice m.A m.xs.length m.k]] w fun e w' => ∃ B kb os, e = .returned (.slice B os.length kb) ∧ LM 73 3 w' w.heap.size B kb os ∧ os.map Mn.dat = plus (ms.map Mn.dat) m.dat ∧ Ext w w' := by
  have HCH := hid hch
  have HX := hid hx
  have HC := hid hc
  obtain ⟨n, hn'⟩ : ∃ n, n = ms.length := ⟨_, rfl⟩
  rw [← hn']
  have HN : Hid (ms.length = n) := hid hn'.symm
  rw [← hn'] at hn
  clear hch hx hc hn'
  have hJ0 := hm
  go_enter Try.func62, Try.ntmps62
  go_wp2
  go_loopw [5, 6, 7, 8, 9] (fun so sd sj _ _ wr => ∃ (j : Nat) (d : Bool) (B : Option Addr) (kb : Nat) (os : List Mn), j ≤ n ∧ sj = .int .i64 j ∧ sd = .bool d ∧ so = .slice B os.length kb ∧ LM 73 3 wr (w.heap.size + 1) B kb os ∧ PlusI (ms.map Mn.dat) m.dat j d (os.map Mn.dat) ∧ os.length ≤ j + cond d 1 0 ∧ Ext (w.alloc (.cells #[.int .i64 m.c, .slice m.A m.xs.length m.k] 73)) wr) (fun _ _ sj _ _ _ => n - (intOf sj).toNat)
  case atStart => exact ⟨0, false, _, _, [], Nat.zero_le _, rfl, rfl, rfl, (by have := LM.made (TM := 73) (TI := 3) (w.alloc (.cells #[.int .i64 m.c, .slice m.A m.xs.length m.k] 73)) (lo := w.heap.size + 1) (by simp); simpa using this), .inl ⟨rfl, rfl, fun y hy => by simp at hy⟩, by simp, (by repeat (first | with_reducible assumption | with_reducible exact Ext.refl _ | with_reducible apply Ext.drewN | with_reducible apply Ext.drew | with_reducible apply Ext.alloc | with_reducible refine Ext.set ?_ (by first | (simp; done) | (simp; omega)) _ | with_reducible refine Ext.next ?_ (by with_reducible assumption)))⟩
  case round =>
    obtain ⟨j, d, B, kb, os, hj, rfl, rfl, rfl, hos, hI, hol, hext⟩ := hrel
    have HI := hid hI
    have q0 : wr.cell? ⟨w.heap.size, 0, none⟩ = some (.int .i64 m.c) := keep hext (by go_simp)
    have q1 : wr.cell? ⟨w.heap.size, 1, none⟩ = some (.slice m.A m.xs.length m.k) := keep hext (by go_simp)
    have hl := World.block_lt_of_cell? _ _ q0
    simp only at hl
    have hwx : Ext w wr := (Ext.alloc (Ext.refl _) _).next hext
    have hJm := hJ0.ext hwx
    have hsz := hext.size
    simp at hsz
    clear hI
    by_cases hlt : j < n
    · have hjL : j < ms.length := by rw [HN.out]; exact hlt
      obtain ⟨b, o, x, rfl, hbl, hx, c0w, c1w, hJw⟩ := h.at_ hjL
      have c0 := keep hwx c0w
      have c1 := keep hwx c1w
      have hJ := hJw.ext hwx
      have hbl' := lt_ext hwx hbl
      have hxl := HX.out x (List.mem_of_getElem? hx)
      have hcx := HC.out x (List.mem_of_getElem? hx)
      have HXD : Hid ((ms.map Mn.dat)[j]? = some x.dat) := hid (by rw [List.getElem?_map, hx]; rfl)
      have HB : Hid (∀ y, atB B y → w.heap.size + 1 ≤ y) := hid fun y hy => (own_atB hos.1 hy).1
      clear hx hjL
      cases d
      · simp only [cond] at hol
        rcases Int.lt_trichotomy (aOrd m.xs x.xs) 0 with ho | ho | ho
        · have HK := hid (plusI_less HXD.out HI.out ho)
          have hb1 : decide (aOrd m.xs x.xs < 0) = true := decide_eq_true ho
          have hb2 : (aOrd m.xs x.xs == 0) = false := by rw [beq_eq_false_iff_ne]; omega
          clear HI
          go_wp2
          refine wp_region_over (by kernel_rfl) (by kernel_rfl) ?_
          repeat (go_big_quiet_step ((go_at_call 67; exact calls_over (specOrder _ _ _ _ m.xs x.xs _ (hJm.1.ext (Over.ext _)) (hJ.1.ext (Over.ext _)) (by omega) (by omega)))))
          refine wpQuiet_nil ?_
          rintro wq ⟨⟨_, hwq⟩, rfl⟩
          have q0' := keep hwq q0
          have q1' := keep hwq q1
          have c0' := keep hwq c0
          have c1' := keep hwq c1
          have hl' := lt_ext hwq hl
          have hblq := lt_ext hwq hbl'
          have hos2 := hos.ext hwq
          have hJm2 := hJm.ext hwq
          have hJ2 := hJ.ext hwq
          have hszq := hwq.size
          have HEQ := hid (hext.next hwq)
          clear q0 q1 c0 c1 hos hJm hJ hbl' hwx hext hwq
          go_wp2_with (first | (at_builtin; (refine app_mono (by decide) Try.underlying23 info_mono rfl _ _ rfl (w.heap.size + 1) B kb os (hos2.ext (by repeat (first | with_reducible assumption | with_reducible exact Ext.refl _ | with_reducible apply Ext.drewN | with_reducible apply Ext.drew | with_reducible apply Ext.alloc | with_reducible refine Ext.set ?_ (by first | (simp; done) | (simp; omega)) _ | with_reducible refine Ext.next ?_ (by with_reducible assumption)))) os.length rfl rfl m ⟨wq.heap.size, 0, none⟩ 1 rfl (by rw [addr_add]; go_simp) (by rw [addr_add]; go_simp) (hJm2.ext (by repeat (first | with_reducible assumption | with_reducible exact Ext.refl _ | with_reducible apply Ext.drewN | with_reducible apply Ext.drew | with_reducible apply Ext.alloc | with_reducible refine Ext.set ?_ (by first | (simp; done) | (simp; omega)) _ | with_reducible refine Ext.next ?_ (by with_reducible assumption)))) (by omega) (by simp; omega) ?_); (intro B5 kb5 w5 ho5 hu5); (have HE5 := hid (((Upd.of_ext (HEQ.out.next (by repeat (first | with_reducible assumption | with_reducible exact Ext.refl _ | with_reducible apply Ext.drewN | with_reducible apply Ext.drew | with_reducible apply Ext.alloc | with_reducible refine Ext.set ?_ (by first | (simp; done) | (simp; omega)) _ | with_reducible refine Ext.next ?_ (by with_reducible assumption))))).next hu5).ext fun b hb => by have h9 := HB.out b hb; simp; omega)); (have HO5 := hid ho5); (have hE5 : Ext w w5 := (Ext.alloc (Ext.refl _) _).next HE5.out); (have c0'' := keep hE5 c0w); (have c1'' := keep hE5 c1w); (have hbl5 := lt_ext hE5 hbl); (have hJ5 := hJw.ext hE5); (have hsz5 := hE5.size); (have r0 : w5.cell? ⟨w.heap.size, 0, none⟩ = some (.int .i64 m.c) := keep HE5.out (by go_simp)); (have r1 : w5.cell? ⟨w.heap.size, 1, none⟩ = some (.slice m.A m.xs.length m.k) := keep HE5.out (by go_simp)); (have hl5 := World.block_lt_of_cell? _ _ r0); (simp only at hl5); (clear ho5 hu5 q0' q1' c0' c1' hos2 hJm2 hJ2 hE5)) | (at_builtin; (refine app_mono (by decide) Try.underlying23 info_mono rfl _ _ rfl (w.heap.size + 1) B5 kb5 (os ++ [m]) (HO5.out.ext (by repeat (first | with_reducible assumption | with_reducible exact Ext.refl _ | with_reducible apply Ext.drewN | with_reducible apply Ext.drew | with_reducible apply Ext.alloc | with_reducible refine Ext.set ?_ (by first | (simp; done) | (simp; omega)) _ | with_reducible refine Ext.next ?_ (by with_reducible assumption)))) (os.length + 1) (by simp) rfl x ⟨w5.heap.size, 0, none⟩ 1 rfl (by rw [addr_add]; go_simp) (by rw [addr_add]; go_simp) (hJ5.ext (by repeat (first | with_reducible assumption | with_reducible exact Ext.refl _ | with_reducible apply Ext.drewN | with_reducible apply Ext.drew | with_reducible apply Ext.alloc | with_reducible refine Ext.set ?_ (by first | (simp; done) | (simp; omega)) _ | with_reducible refine Ext.next ?_ (by with_reducible assumption)))) (by omega) (by simp; omega) ?_); (intro B6 kb6 w6 ho6 hu6)))
          have HX6 := hid (((Upd.of_ext (HE5.out.next (by repeat (first | with_reducible assumption | with_reducible exact Ext.refl _ | with_reducible apply Ext.drewN | with_reducible apply Ext.drew | with_reducible apply Ext.alloc | with_reducible refine Ext.set ?_ (by first | (simp; done) | (simp; omega)) _ | with_reducible refine Ext.next ?_ (by with_reducible assumption))))).next hu6).ext fun b hb => by have h9 := (own_atB HO5.out.1 hb).1; simp; omega)
          have HO6 := hid ho6
          have HD6 : Hid (PlusI (ms.map Mn.dat) m.dat (j + 1) true ((os ++ [m] ++ [x]).map Mn.dat)) := hid (by simpa using HK.out)
          clear ho6 hu6 HO5 HE5
          go_wp2
          go_roundw
          case rel => exact ⟨j + 1, true, B6, kb6, _, by omega, by go_num, rfl, by simp, HO6.out, HD6.out, by simp; omega, HX6.out⟩
          case measure => simp [intOf]; omega
        · have hb1 : decide (aOrd m.xs x.xs < 0) = false := decide_eq_false (by omega)
          have hb2 : (aOrd m.xs x.xs == 0) = true := by rw [beq_iff_eq]; exact ho
          have HK := hid (plusI_same HXD.out HI.out ho)
          clear HI
          go_wp2
          refine wp_region_over (by kernel_rfl) (by kernel_rfl) ?_
          repeat (go_big_quiet_step ((go_at_call 67; exact calls_over (specOrder _ _ _ _ m.xs x.xs _ (hJm.1.ext (Over.ext _)) (hJ.1.ext (Over.ext _)) (by omega) (by omega)))))
          refine wpQuiet_nil ?_
          rintro wq ⟨⟨_, hwq⟩, rfl⟩
          have q0' := keep hwq q0
          have q1' := keep hwq q1
          have c0' := keep hwq c0
          have c1' := keep hwq c1
          have hl' := lt_ext hwq hl
          have hblq := lt_ext hwq hbl'
          have hos2 := hos.ext hwq
          have hJm2 := hJm.ext hwq
          have hJ2 := hJ.ext hwq
          have hszq := hwq.size
          have HEQ := hid (hext.next hwq)
          clear q0 q1 c0 c1 hos hJm hJ hbl' hwx hext hwq
          rw [ho]
          go_wp2
          refine wp_region_over (by kernel_rfl) (by kernel_rfl) ?_
          repeat (go_big_quiet_step ((go_at_call 61; exact calls_over_same (specWrdWrap _ _))))
          refine wpQuiet_nil ?_
          rintro wp ⟨⟨_, hwp⟩, rfl⟩
          have c1p := keep hwp c1'
          have hblp := lt_ext hwp hblq
          have hosp := hos2.ext hwp
          have hJp : RJ 3 wp ⟨wrap (x.c + m.c), x.A, x.k, x.xs⟩ := hJ2.ext hwp
          have hszp := hwp.size
          have HEQ := hid (HEQ.out.next hwp)
          clear q0' q1' c0' c1' hos2 hJm2 hJ2 hblq hwp
          by_cases hcp : 0 < wrap (x.c + m.c)
          · go_wp2_with (at_builtin; (refine app_mono (by decide) Try.underlying23 info_mono rfl _ _ rfl (w.heap.size + 1) B kb os (hosp.ext (by repeat (first | with_reducible assumption | with_reducible exact Ext.refl _ | with_reducible apply Ext.drewN | with_reducible apply Ext.drew | with_reducible apply Ext.alloc | with_reducible refine Ext.set ?_ (by first | (simp; done) | (simp; omega)) _ | with_reducible refine Ext.next ?_ (by with_reducible assumption)))) os.length rfl rfl ⟨wrap (x.c + m.c), x.A, x.k, x.xs⟩ ⟨wp.heap.size, 0, none⟩ 1 rfl (by rw [addr_add]; go_simp) (by rw [addr_add]; go_simp) (hJp.ext (by repeat (first | with_reducible assumption | with_reducible exact Ext.refl _ | with_reducible apply Ext.drewN | with_reducible apply Ext.drew | with_reducible apply Ext.alloc | with_reducible refine Ext.set ?_ (by first | (simp; done) | (simp; omega)) _ | with_reducible refine Ext.next ?_ (by with_reducible assumption)))) (by omega) (by simp; omega) ?_); (intro B5 kb5 w5 ho5 hu5))
            have HX6 := hid (((Upd.of_ext (HEQ.out.next (by repeat (first | with_reducible assumption | with_reducible exact Ext.refl _ | with_reducible apply Ext.drewN | with_reducible apply Ext.drew | with_reducible apply Ext.alloc | with_reducible refine Ext.set ?_ (by first | (simp; done) | (simp; omega)) _ | with_reducible refine Ext.next ?_ (by with_reducible assumption))))).next hu5).ext fun b hb => by have h9 := HB.out b hb; simp; omega)
            have HO6 := hid ho5
            have HD6 : Hid (PlusI (ms.map Mn.dat) m.dat (j + 1) true ((os ++ [(⟨wrap (x.c + m.c), x.A, x.k, x.xs⟩ : Mn)]).map Mn.dat)) := hid (by have := HK.out; rw [if_pos (show 0 < wrap (x.dat.1 + m.dat.1) from hcp)] at this; rw [List.map_append]; exact this)
            clear ho5 hu5
            go_wp2
            go_roundw
            case rel => exact ⟨j + 1, true, B5, kb5, _, by omega, by go_num, rfl, by simp, HO6.out, HD6.out, by simp; omega, HX6.out⟩
            case measure => simp [intOf]; omega
          · have HD6 : Hid (PlusI (ms.map Mn.dat) m.dat (j + 1) true (os.map Mn.dat)) := hid (by have := HK.out; rwa [if_neg (show ¬ 0 < wrap (x.dat.1 + m.dat.1) from hcp)] at this)
            clear HK
            go_wp2
            go_roundw
            case rel => exact ⟨j + 1, true, B, kb, os, by omega, by go_num, rfl, rfl, hosp, HD6.out, by simp; omega, HEQ.out⟩
            case measure => simp [intOf]; omega
        · have hb1 : decide (aOrd m.xs x.xs < 0) = false := decide_eq_false (by omega)
          have hb2 : (aOrd m.xs x.xs == 0) = false := by rw [beq_eq_false_iff_ne]; omega
          have HK := hid (plusI_more HXD.out HI.out ho)
          clear HI
          go_wp2
          refine wp_region_over (by kernel_rfl) (by kernel_rfl) ?_
          repeat (go_big_quiet_step ((go_at_call 67; exact calls_over (specOrder _ _ _ _ m.xs x.xs _ (hJm.1.ext (Over.ext _)) (hJ.1.ext (Over.ext _)) (by omega) (by omega)))))
          refine wpQuiet_nil ?_
          rintro wq ⟨⟨_, hwq⟩, rfl⟩
          have q0' := keep hwq q0
          have q1' := keep hwq q1
          have c0' := keep hwq c0
          have c1' := keep hwq c1
          have hl' := lt_ext hwq hl
          have hblq := lt_ext hwq hbl'
          have hos2 := hos.ext hwq
          have hJm2 := hJm.ext hwq
          have hJ2 := hJ.ext hwq
          have hszq := hwq.size
          have HEQ := hid (hext.next hwq)
          clear q0 q1 c0 c1 hos hJm hJ hbl' hwx hext hwq
          go_wp2_with (at_builtin; (refine app_mono (by decide) Try.underlying23 info_mono rfl _ _ rfl (w.heap.size + 1) B kb os (hos2.ext (by repeat (first | with_reducible assumption | with_reducible exact Ext.refl _ | with_reducible apply Ext.drewN | with_reducible apply Ext.drew | with_reducible apply Ext.alloc | with_reducible refine Ext.set ?_ (by first | (simp; done) | (simp; omega)) _ | with_reducible refine Ext.next ?_ (by with_reducible assumption)))) os.length rfl rfl x ⟨wq.heap.size, 0, none⟩ 1 rfl (by rw [addr_add]; go_simp) (by rw [addr_add]; go_simp) (hJ2.ext (by repeat (first | with_reducible assumption | with_reducible exact Ext.refl _ | with_reducible apply Ext.drewN | with_reducible apply Ext.drew | with_reducible apply Ext.alloc | with_reducible refine Ext.set ?_ (by first | (simp; done) | (simp; omega)) _ | with_reducible refine Ext.next ?_ (by with_reducible assumption)))) (by omega) (by simp; omega) ?_); (intro B5 kb5 w5 ho5 hu5))
          have HX6 := hid (((Upd.of_ext (HEQ.out.next (by repeat (first | with_reducible assumption | with_reducible exact Ext.refl _ | with_reducible apply Ext.drewN | with_reducible apply Ext.drew | with_reducible apply Ext.alloc | with_reducible refine Ext.set ?_ (by first | (simp; done) | (simp; omega)) _ | with_reducible refine Ext.next ?_ (by with_reducible assumption))))).next hu5).ext fun b hb => by have h9 := HB.out b hb; simp; omega)
          have HO6 := hid ho5
          have HD6 : Hid (PlusI (ms.map Mn.dat) m.dat (j + 1) false ((os ++ [x]).map Mn.dat)) := hid (by simpa using HK.out)
          clear ho5 hu5
          go_wp2
          go_roundw
          case rel => exact ⟨j + 1, false, B5, kb5, _, by omega, by go_num, rfl, by simp, HO6.out, HD6.out, by simp; omega, HX6.out⟩
          case measure => simp [intOf]; omega
      · simp only [cond] at hol
        have ho := plusI_lt HXD.out HCH.out HI.out
        have ho' : aOrd m.xs x.xs < 0 := ho
        have hb1 : decide (aOrd m.xs x.xs < 0) = true := decide_eq_true ho'
        have hb2 : (aOrd m.xs x.xs == 0) = false := by rw [beq_eq_false_iff_ne]; omega
        have HK := hid (plusI_done HXD.out HI.out)
        clear HI ho
        go_wp2
        refine wp_region_over (by kernel_rfl) (by kernel_rfl) ?_
        repeat (go_big_quiet_step ((go_at_call 67; exact calls_over (specOrder _ _ _ _ m.xs x.xs _ (hJm.1.ext (Over.ext _)) (hJ.1.ext (Over.ext _)) (by omega) (by omega)))))
        refine wpQuiet_nil ?_
        rintro wq ⟨⟨_, hwq⟩, rfl⟩
        have q0' := keep hwq q0
        have q1' := keep hwq q1
        have c0' := keep hwq c0
        have c1' := keep hwq c1
        have hl' := lt_ext hwq hl
        have hblq := lt_ext hwq hbl'
        have hos2 := hos.ext hwq
        have hJm2 := hJm.ext hwq
        have hJ2 := hJ.ext hwq
        have hszq := hwq.size
        have HEQ := hid (hext.next hwq)
        clear q0 q1 c0 c1 hos hJm hJ hbl' hwx hext hwq
        go_wp2_with (at_builtin; (refine app_mono (by decide) Try.underlying23 info_mono rfl _ _ rfl (w.heap.size + 1) B kb os (hos2.ext (by repeat (first | with_reducible assumption | with_reducible exact Ext.refl _ | with_reducible apply Ext.drewN | with_reducible apply Ext.drew | with_reducible apply Ext.alloc | with_reducible refine Ext.set ?_ (by first | (simp; done) | (simp; omega)) _ | with_reducible refine Ext.next ?_ (by with_reducible assumption)))) os.length rfl rfl x ⟨wq.heap.size, 0, none⟩ 1 rfl (by rw [addr_add]; go_simp) (by rw [addr_add]; go_simp) (hJ2.ext (by repeat (first | with_reducible assumption | with_reducible exact Ext.refl _ | with_reducible apply Ext.drewN | with_reducible apply Ext.drew | with_reducible apply Ext.alloc | with_reducible refine Ext.set ?_ (by first | (simp; done) | (simp; omega)) _ | with_reducible refine Ext.next ?_ (by with_reducible assumption)))) (by omega) (by simp; omega) ?_); (intro B5 kb5 w5 ho5 hu5))
        have HX6 := hid (((Upd.of_ext (HEQ.out.next (by repeat (first | with_reducible assumption | with_reducible exact Ext.refl _ | with_reducible apply Ext.drewN | with_reducible apply Ext.drew | with_reducible apply Ext.alloc | with_reducible refine Ext.set ?_ (by first | (simp; done) | (simp; omega)) _ | with_reducible refine Ext.next ?_ (by with_reducible assumption))))).next hu5).ext fun b hb => by have h9 := HB.out b hb; simp; omega)
        have HO6 := hid ho5
        have HD6 : Hid (PlusI (ms.map Mn.dat) m.dat (j + 1) true ((os ++ [x]).map Mn.dat)) := hid (by simpa using HK.out)
        clear ho5 hu5
        go_wp2
        go_roundw
        case rel => exact ⟨j + 1, true, B5, kb5, _, by omega, by go_num, rfl, by simp, HO6.out, HD6.out, by simp; omega, HX6.out⟩
        case measure => simp [intOf]; omega
    · have hE := plusI_end HI.out (by rw [List.length_map, HN.out]; omega)
      have HB : Hid (∀ y, atB B y → w.heap.size + 1 ≤ y) := hid fun y hy => (own_atB hos.1 hy).1
      cases d
      · simp only [cond] at hol
        have HD : Hid ((os ++ [m]).map Mn.dat = plus (ms.map Mn.dat) m.dat) := hid (by rw [← hE]; simp)
        have HEQ := hid hext
        clear hE HI
        go_wp2_with (at_builtin; (refine app_mono (by decide) Try.underlying23 info_mono rfl _ _ rfl (w.heap.size + 1) B kb os (hos.ext (by repeat (first | with_reducible assumption | with_reducible exact Ext.refl _ | with_reducible apply Ext.drewN | with_reducible apply Ext.drew | with_reducible apply Ext.alloc | with_reducible refine Ext.set ?_ (by first | (simp; done) | (simp; omega)) _ | with_reducible refine Ext.next ?_ (by with_reducible assumption)))) os.length rfl rfl m ⟨wr.heap.size, 0, none⟩ 1 rfl (by rw [addr_add]; go_simp) (by rw [addr_add]; go_simp) (hJm.ext (by repeat (first | with_reducible assumption | with_reducible exact Ext.refl _ | with_reducible apply Ext.drewN | with_reducible apply Ext.drew | with_reducible apply Ext.alloc | with_reducible refine Ext.set ?_ (by first | (simp; done) | (simp; omega)) _ | with_reducible refine Ext.next ?_ (by with_reducible assumption)))) (by omega) (by simp; omega) ?_); (intro B5 kb5 w5 ho5 hu5))
        have HX6 := hid (((Upd.of_ext (HEQ.out.next (by repeat (first | with_reducible assumption | with_reducible exact Ext.refl _ | with_reducible apply Ext.drewN | with_reducible apply Ext.drew | with_reducible apply Ext.alloc | with_reducible refine Ext.set ?_ (by first | (simp; done) | (simp; omega)) _ | with_reducible refine Ext.next ?_ (by with_reducible assumption))))).next hu5).ext fun b hb => by have h9 := HB.out b hb; simp; omega)
        have HO6 := hid ho5
        clear ho5 hu5
        go_wp2
        go_ret
        exact ⟨B5, kb5, os ++ [m], by simp, HO6.out.base (by omega), HD.out, (Ext.alloc (Ext.refl _) _).next HX6.out⟩
      · have HD : Hid (os.map Mn.dat = plus (ms.map Mn.dat) m.dat) := hid (by rw [← hE]; simp)
        have HO6 := hid hos
        clear hE HI hos
        go_wp2
        go_ret
        exact ⟨B, kb, os, rfl, HO6.out.base (by omega), HD.out, hwx⟩
end Go.Proofs.Ytcgelcaepkakaaa
