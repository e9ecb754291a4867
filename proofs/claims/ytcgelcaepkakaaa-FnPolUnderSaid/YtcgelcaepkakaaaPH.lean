/- Contracts of the laws' own comparisons of lists of ints and of sums: true just of what is the same. Conditions: lengths that a machine can hold. -/
import Derived.Test.YtcgelcaepkakaaaE
namespace Go.Proofs.Ytcgelcaepkakaaa
open Go Go.RowKit
set_option linter.unusedVariables false
set_option linter.unusedSimpArgs false

theorem laInts_ (A A' : Option Addr) (k k' : Nat) (xs ys : List Int) (w : World) (h : RI 3 w A xs) (h' : RI 3 w A' ys) (hn : xs.length < 4611686018427387904) (hn' : ys.length < 4611686018427387904) :
    Calls Try.prog 65 #[.slice A xs.length k, .slice A' ys.length k'] w fun e w' => e = .returned (.bool (decide (xs = ys))) ∧ Ext w w' := by
  by_cases hl : xs.length = ys.length
  · rw [← hl] at hn' ⊢
    have HL := hid hl
    clear hl
    go_enter Try.func65, Try.ntmps65
    go_wp2
    go_loopw [5] (fun i wr => ∃ j : Nat, j ≤ xs.length ∧ i = .int .i64 j ∧ (∀ t, t < j → xs[t]? = ys[t]?) ∧ Ext w wr) (fun i _ => xs.length - (intOf i).toNat)
    case atStart => exact ⟨0, Nat.zero_le _, rfl, fun t ht => absurd ht (by omega), Ext.refl _⟩
    case round =>
      obtain ⟨j, hj, rfl, hp, hext⟩ := hrel
      have HP := hid hp
      clear hp
      by_cases hlt : j < xs.length
      · obtain ⟨b, o, x, rfl, hb, hx, hcell⟩ := (h.ext hext).at_ hlt
        obtain ⟨b', o', y, rfl, hb', hy, hcell'⟩ := (h'.ext hext).at_ (i := j) (by rw [← HL.out]; exact hlt)
        have HX := hid hx
        have HY := hid hy
        clear hx hy h h'
        by_cases hxy : x = y
        · subst hxy
          go_wp2
          refine wp_region_over (by kernel_rfl) (by kernel_rfl) ?_
          repeat (go_big_quiet_step (fail))
          refine wpQuiet_nil ?_
          rintro _ ⟨⟨wq, hwq⟩, rfl⟩
          go_wp2
          go_roundw
          case rel =>
            refine ⟨j + 1, by omega, by go_num, fun t ht => ?_, (by repeat (first | with_reducible assumption | with_reducible exact Ext.refl _ | with_reducible apply Ext.drewN | with_reducible apply Ext.drew | with_reducible apply Ext.alloc | with_reducible refine Ext.set ?_ (by first | (simp; done) | (simp; omega)) _ | with_reducible refine Ext.next ?_ (by with_reducible assumption)))⟩
            rcases Nat.lt_or_ge t j with h1 | h1
            · exact HP.out t h1
            · obtain rfl : t = j := by omega
              rw [HX.out, HY.out]
          case measure => simp [intOf]; omega
        · have hE := hid (show decide (xs = ys) = false from decide_eq_false (by rintro rfl; have := HX.out.symm.trans HY.out; injection this with this; exact hxy this))
          go_wp2
          refine wp_region_over (by kernel_rfl) (by kernel_rfl) ?_
          repeat (go_big_quiet_step (fail))
          refine wpQuiet_nil ?_
          rintro _ ⟨⟨wq, hwq⟩, rfl⟩
          go_wp2
          go_ret
          exact ⟨ret_bool hE.out.symm, (by repeat (first | with_reducible assumption | with_reducible exact Ext.refl _ | with_reducible apply Ext.drewN | with_reducible apply Ext.drew | with_reducible apply Ext.alloc | with_reducible refine Ext.set ?_ (by first | (simp; done) | (simp; omega)) _ | with_reducible refine Ext.next ?_ (by with_reducible assumption)))⟩
      · have hE := hid (show decide (xs = ys) = true from decide_eq_true (List.ext_getElem? fun t => by
          rcases Nat.lt_or_ge t j with h1 | h1
          · exact HP.out t h1
          · rw [List.getElem?_eq_none (by omega), List.getElem?_eq_none (by have := HL.out; omega)]))
        go_wp2
        go_ret
        exact ⟨ret_bool hE.out.symm, hext⟩
  · have hl' : ((xs.length : Int) == (ys.length : Int)) = false := by rw [beq_eq_false_iff_ne]; omega
    have hE := hid (show decide (xs = ys) = false from decide_eq_false (by rintro rfl; exact hl rfl))
    clear hl
    go_enter Try.func65, Try.ntmps65
    go_wp2
    go_ret
    exact ⟨ret_bool hE.out.symm, Ext.refl _⟩
theorem laInts_v (A A' : Option Addr) (k k' : Nat) (xs ys : List Int) (w : World) (h : RI 3 w A xs) (h' : RI 3 w A' ys) (hn : xs.length < 4611686018427387904) (hn' : ys.length < 4611686018427387904) {v : Bool} (hv : decide (xs = ys) = v) :
    Calls Try.prog 65 #[.slice A xs.length k, .slice A' ys.length k'] w fun e w' => e = .returned (.bool v) ∧ Ext w w' := by
  subst hv
  exact laInts_ A A' k k' xs ys w h h' hn hn'

set_option maxHeartbeats 1000000 in
theorem laPoly_ (A A' : Option Addr) (k k' : Nat) (ms ms' : List Mn) (w : World) (h : RM 73 3 w A ms) (h' : RM 73 3 w A' ms') (hs : SzM ms) (hs' : SzM ms') :
    Calls Try.prog 15 #[.agg #[.slice A ms.length k], .agg #[.slice A' ms'.length k']] w fun e w' => e = .returned (.bool (decide (ms.map Mn.dat = ms'.map Mn.dat))) ∧ Ext w w' := by
  have hn := hs.1
  have hn' := hs'.1
  by_cases hl : ms.length = ms'.length
  · rw [← hl] at hn' ⊢
    have HL := hid hl
    clear hl
    go_enter Try.func15, Try.ntmps15
    go_wp2
    go_loopw [5] (fun i wr => ∃ j : Nat, j ≤ ms.length ∧ i = .int .i64 j ∧ (∀ t, t < j → (ms.map Mn.dat)[t]? = (ms'.map Mn.dat)[t]?) ∧ wr.cell? ⟨w.heap.size, 0, none⟩ = some (.slice A ms.length k) ∧ wr.cell? ⟨w.heap.size + 1, 0, none⟩ = some (.slice A' ms.length k') ∧ Ext w wr) (fun i _ => ms.length - (intOf i).toNat)
    case atStart => exact ⟨0, Nat.zero_le _, rfl, fun t ht => absurd ht (by omega), by go_simp, by go_simp, (by repeat (first | with_reducible assumption | with_reducible exact Ext.refl _ | with_reducible apply Ext.drewN | with_reducible apply Ext.drew | with_reducible apply Ext.alloc | with_reducible refine Ext.set ?_ (by first | (simp; done) | (simp; omega)) _ | with_reducible refine Ext.next ?_ (by with_reducible assumption)))⟩
    case round =>
      obtain ⟨j, hj, rfl, hp, b0, b1, hext⟩ := hrel
      have HP := hid hp
      have hb0 := World.block_lt_of_cell? _ _ b0
      have hb1 := World.block_lt_of_cell? _ _ b1
      simp only at hb0 hb1
      clear hp
      by_cases hlt : j < ms.length
      · obtain ⟨b, o, m, rfl, hb, hm, hc0, hc1, hI⟩ := (h.ext hext).at_ hlt
        obtain ⟨b', o', m', rfl, hb', hm', hd0, hd1, hI'⟩ := (h'.ext hext).at_ (i := j) (by rw [← HL.out]; exact hlt)
        have hsz := hs.at_ hm
        have hsz' := hs'.at_ hm'
        have HX := hid hm
        have HY := hid hm'
        clear hm hm' h h'
        have HN : Hid (m.dat ≠ m'.dat → decide (ms.map Mn.dat = ms'.map Mn.dat) = false) := hid fun hne => decide_eq_false fun e => hne (by
          have := congrArg (fun l : List (Int × List Int) => l[j]?) e
          simp only [List.getElem?_map, HX.out, HY.out, Option.map_some] at this
          injection this)
        by_cases hc : m.c = m'.c
        · have hcb : (m.c != m'.c) = false := by simp [hc]
          by_cases hx : m.xs = m'.xs
          · have hxb : Hid (decide (m.xs = m'.xs) = true) := hid (decide_eq_true hx)
            have HD : Hid (m.dat = m'.dat) := hid (by unfold Mn.dat; rw [hc, hx])
            clear hx
            rw [hc] at hc0
            clear hc hcb
            go_wp2
            refine wp_region_over (by kernel_rfl) (by kernel_rfl) ?_
            repeat (go_big_quiet_step ((go_at_call 65; exact calls_over (laInts_v _ _ _ _ m.xs m'.xs _ ((hI.ext (by repeat (first | with_reducible assumption | with_reducible exact Ext.refl _ | with_reducible apply Ext.drewN | with_reducible apply Ext.drew | with_reducible apply Ext.alloc | with_reducible refine Ext.set ?_ (by first | (simp; done) | (simp; omega)) _ | with_reducible refine Ext.next ?_ (by with_reducible assumption)))).ext (Over.ext _)) ((hI'.ext (by repeat (first | with_reducible assumption | with_reducible exact Ext.refl _ | with_reducible apply Ext.drewN | with_reducible apply Ext.drew | with_reducible apply Ext.alloc | with_reducible refine Ext.set ?_ (by first | (simp; done) | (simp; omega)) _ | with_reducible refine Ext.next ?_ (by with_reducible assumption)))).ext (Over.ext _)) hsz hsz' hxb.out))))
            refine wpQuiet_nil ?_
            rintro wq ⟨⟨_, hwq⟩, rfl⟩
            have hwq' := hwq
            have p0 := keep hwq b0
            have p1 := keep hwq b1
            go_wp2
            go_roundw
            case rel =>
              refine ⟨j + 1, by omega, by go_num, fun t ht => ?_, p0, p1, (by repeat (first | with_reducible assumption | with_reducible exact Ext.refl _ | with_reducible apply Ext.drewN | with_reducible apply Ext.drew | with_reducible apply Ext.alloc | with_reducible refine Ext.set ?_ (by first | (simp; done) | (simp; omega)) _ | with_reducible refine Ext.next ?_ (by with_reducible assumption)))⟩
              rcases Nat.lt_or_ge t j with h1 | h1
              · exact HP.out t h1
              · obtain rfl : t = j := by omega
                rw [List.getElem?_map, List.getElem?_map, HX.out, HY.out, Option.map_some, Option.map_some, HD.out]
            case measure => simp [intOf]; omega
          · have hxb : Hid (decide (m.xs = m'.xs) = false) := hid (decide_eq_false hx)
            have hE := hid (HN.out fun e => hx (congrArg Prod.snd e))
            clear hx
            rw [hc] at hc0
            clear hc hcb
            go_wp2
            refine wp_region_over (by kernel_rfl) (by kernel_rfl) ?_
            repeat (go_big_quiet_step ((go_at_call 65; exact calls_over (laInts_v _ _ _ _ m.xs m'.xs _ ((hI.ext (by repeat (first | with_reducible assumption | with_reducible exact Ext.refl _ | with_reducible apply Ext.drewN | with_reducible apply Ext.drew | with_reducible apply Ext.alloc | with_reducible refine Ext.set ?_ (by first | (simp; done) | (simp; omega)) _ | with_reducible refine Ext.next ?_ (by with_reducible assumption)))).ext (Over.ext _)) ((hI'.ext (by repeat (first | with_reducible assumption | with_reducible exact Ext.refl _ | with_reducible apply Ext.drewN | with_reducible apply Ext.drew | with_reducible apply Ext.alloc | with_reducible refine Ext.set ?_ (by first | (simp; done) | (simp; omega)) _ | with_reducible refine Ext.next ?_ (by with_reducible assumption)))).ext (Over.ext _)) hsz hsz' hxb.out))))
            refine wpQuiet_nil ?_
            rintro wq ⟨⟨_, hwq⟩, rfl⟩
            go_wp2
            go_ret
            exact ⟨ret_bool hE.out.symm, (by repeat (first | with_reducible assumption | with_reducible exact Ext.refl _ | with_reducible apply Ext.drewN | with_reducible apply Ext.drew | with_reducible apply Ext.alloc | with_reducible refine Ext.set ?_ (by first | (simp; done) | (simp; omega)) _ | with_reducible refine Ext.next ?_ (by with_reducible assumption)))⟩
        · have hE := hid (HN.out fun e => hc (congrArg Prod.fst e))
          have hcb : (m.c != m'.c) = true := bne_iff_ne.2 hc
          clear hc
          go_wp2
          refine wp_region_over (by kernel_rfl) (by kernel_rfl) ?_
          repeat (go_big_quiet_step (fail))
          refine wpQuiet_nil ?_
          rintro wq ⟨⟨_, hwq⟩, rfl⟩
          go_wp2
          go_ret
          exact ⟨ret_bool hE.out.symm, (by repeat (first | with_reducible assumption | with_reducible exact Ext.refl _ | with_reducible apply Ext.drewN | with_reducible apply Ext.drew | with_reducible apply Ext.alloc | with_reducible refine Ext.set ?_ (by first | (simp; done) | (simp; omega)) _ | with_reducible refine Ext.next ?_ (by with_reducible assumption)))⟩
      · have hE := hid (show decide (ms.map Mn.dat = ms'.map Mn.dat) = true from decide_eq_true (List.ext_getElem? fun t => by
          rcases Nat.lt_or_ge t j with h1 | h1
          · exact HP.out t h1
          · rw [List.getElem?_eq_none (by rw [List.length_map]; omega), List.getElem?_eq_none (by rw [List.length_map]; have := HL.out; omega)]))
        go_wp2
        go_ret
        exact ⟨ret_bool hE.out.symm, hext⟩
  · have hl' : ((ms.length : Int) == (ms'.length : Int)) = false := by rw [beq_eq_false_iff_ne]; omega
    have hE := hid (show decide (ms.map Mn.dat = ms'.map Mn.dat) = false from decide_eq_false fun e => hl (by simpa using congrArg List.length e))
    clear hl
    go_enter Try.func15, Try.ntmps15
    go_wp2
    go_ret
    exact ⟨ret_bool hE.out.symm, (by repeat (first | with_reducible assumption | with_reducible exact Ext.refl _ | with_reducible apply Ext.drewN | with_reducible apply Ext.drew | with_reducible apply Ext.alloc | with_reducible refine Ext.set ?_ (by first | (simp; done) | (simp; omega)) _ | with_reducible refine Ext.next ?_ (by with_reducible assumption)))⟩
end Go.Proofs.Ytcgelcaepkakaaa
