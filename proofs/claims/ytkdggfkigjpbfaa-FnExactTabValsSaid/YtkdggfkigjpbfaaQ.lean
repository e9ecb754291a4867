/- Contracts of PolOrder, the program's and the reference's. Conditions: lengths that a machine can hold. -/
import Derived.Test.YtkdggfkigjpbfaaO
import Derived.Deep.RegionHeld3
namespace Go.Proofs.Ytkdggfkigjpbfaa
open Go Go.RowKit
set_option linter.unusedVariables false
set_option linter.unusedSimpArgs false

def monoOrd (a b : Int × List Int) : Int := orI (aOrd a.2 b.2) (cmpI a.1 b.1)
def ordL : List (Int × List Int) → List (Int × List Int) → Int
  | [], _ => 0
  | _ :: _, [] => 0
  | a :: p, b :: q => orI (monoOrd a b) (ordL p q)
def polOrd (p q : List (Int × List Int)) : Int := orI (cmpI p.length q.length) (ordL p q)

theorem ord_step {ms ms' : List Mn} {j : Nat} {m m' : Mn} (hm : ms[j]? = some m) (hm' : ms'[j]? = some m') :
    ordL ((ms.drop j).map Mn.dat) ((ms'.drop j).map Mn.dat) = orI (monoOrd m.dat m'.dat) (ordL ((ms.drop (j + 1)).map Mn.dat) ((ms'.drop (j + 1)).map Mn.dat)) := by
  obtain ⟨hj, he⟩ := List.getElem?_eq_some_iff.1 hm
  obtain ⟨hj', he'⟩ := List.getElem?_eq_some_iff.1 hm'
  rw [List.drop_eq_getElem_cons hj, he, List.drop_eq_getElem_cons hj', he', List.map_cons, List.map_cons, ordL]
theorem ord_out {ms ms' : List Mn} {j : Nat} (hj : ms.length ≤ j) : ordL ((ms.drop j).map Mn.dat) ((ms'.drop j).map Mn.dat) = 0 := by
  rw [List.drop_eq_nil_of_le hj]
  rfl
theorem orI_ne {a b : Int} (h : a ≠ 0) : orI a b = a := by rw [orI, if_neg h]
theorem orI_zero (b : Int) : orI 0 b = b := by rw [orI, if_pos rfl]
theorem cmpI_self (a : Int) : cmpI a a = 0 := by simp [cmpI]
theorem cmpI_ne {a b : Int} (h : a ≠ b) : cmpI a b ≠ 0 := by
  unfold cmpI
  split
  · omega
  · split <;> omega
theorem polOrd_lens {ms ms' : List Mn} (h : ms.length ≠ ms'.length) : polOrd (ms.map Mn.dat) (ms'.map Mn.dat) = cmpI ms.length ms'.length := by
  unfold polOrd
  rw [List.length_map, List.length_map]
  exact orI_ne (cmpI_ne (by omega))
theorem polOrd_same {ms ms' : List Mn} (h : ms.length = ms'.length) : polOrd (ms.map Mn.dat) (ms'.map Mn.dat) = ordL (ms.map Mn.dat) (ms'.map Mn.dat) := by
  unfold polOrd
  rw [List.length_map, List.length_map, h, cmpI_self, orI_zero]

set_option maxHeartbeats 400000 in
theorem implPolOrder (A A' : Option Addr) (k k' : Nat) (ms ms' : List Mn) (w : World) (h : RM 72 3 w A ms) (h' : RM 72 3 w A' ms') (hs : SzM ms) (hs' : SzM ms') :
    Calls Try.prog 74 #[.agg #[.slice A ms.length k], .agg #[.slice A' ms'.length k']] w fun e w' => e = .returned (.int .i64 (polOrd (ms.map Mn.dat) (ms'.map Mn.dat))) ∧ Ext w w' := by
  have hn := hs.1
  have hn' := hs'.1
  by_cases hl : ms.length = ms'.length
  · have HC : cmpI ms.length ms'.length = 0 := by rw [hl]; exact cmpI_self _
    have HP := hid (polOrd_same hl)
    have HL := hid hl
    clear hl
    go_enter Try.func74, Try.ntmps74
    go_wp2_with (go_at_call 70; refine (cmpCompare _ _ _).mono ?_; rintro e w' ⟨rfl, rfl⟩)
    go_loopw [22] (fun i wr => ∃ j : Nat, j ≤ ms.length ∧ i = .int .i64 j ∧ ordL ((ms.drop j).map Mn.dat) ((ms'.drop j).map Mn.dat) = ordL (ms.map Mn.dat) (ms'.map Mn.dat) ∧ Ext w wr ∧ wr.cell? ⟨w.heap.size + 1, 0, none⟩ = some (.slice A' ms'.length k')) (fun i _ => ms.length - (intOf i).toNat)
    case atStart => exact ⟨0, Nat.zero_le _, rfl, by simp only [List.drop_zero], (by repeat (first | with_reducible assumption | with_reducible exact Ext.refl _ | with_reducible apply Ext.drewN | with_reducible apply Ext.drew | with_reducible apply Ext.alloc | with_reducible refine Ext.set ?_ (by first | (simp; done) | (simp; omega)) _ | with_reducible refine Ext.next ?_ (by with_reducible assumption))), by go_simp⟩
    case round =>
      obtain ⟨j, hj, rfl, heq, hext, hcp⟩ := hrel
      have HA := hid heq
      clear heq
      have hlt2 := World.block_lt_of_cell? wr _ hcp
      simp only at hlt2
      by_cases hlt : j < ms.length
      · obtain ⟨b, o, m, rfl, hb, hm, hc0, hc1, hI⟩ := (h.ext hext).at_ hlt
        obtain ⟨b', o', m', rfl, hb', hm', hd0, hd1, hI'⟩ := (h'.ext hext).at_ (i := j) (by rw [← HL.out]; exact hlt)
        have hlt' : j < ms'.length := by rw [← HL.out]; exact hlt
        have hsz := hs.at_ hm
        have hsz' := hs'.at_ hm'
        have HS := hid (ord_step hm hm')
        clear hm hm' h h'
        go_wp2
        have e0 : (wr.alloc (.cells #[.int .i64 m.c, .slice m.A m.xs.length m.k] 72)).cell? ⟨wr.heap.size, 0, none⟩ = some (.int .i64 m.c) := by go_simp
        have e1 : (wr.alloc (.cells #[.int .i64 m.c, .slice m.A m.xs.length m.k] 72)).cell? ⟨wr.heap.size, 1, none⟩ = some (.slice m.A m.xs.length m.k) := by go_simp
        have e2 : (wr.alloc (.cells #[.int .i64 m.c, .slice m.A m.xs.length m.k] 72)).cell? ⟨w.heap.size + 1, 0, none⟩ = some (.slice (some ⟨b', o', none⟩) ms'.length k') := by go_simp
        have e3 : (wr.alloc (.cells #[.int .i64 m.c, .slice m.A m.xs.length m.k] 72)).cell? ⟨b', o' + j * 2, none⟩ = some (.int .i64 m'.c) := by go_simp
        have e4 : (wr.alloc (.cells #[.int .i64 m.c, .slice m.A m.xs.length m.k] 72)).cell? ⟨b', o' + j * 2 + 1, none⟩ = some (.slice m'.A m'.xs.length m'.k) := by go_simp
        have hx1 : Ext w (wr.alloc (.cells #[.int .i64 m.c, .slice m.A m.xs.length m.k] 72)) := hext.alloc _
        have hI1 := hI.ext ((Ext.refl wr).alloc (.cells #[.int .i64 m.c, .slice m.A m.xs.length m.k] 72))
        have hI2 := hI'.ext ((Ext.refl wr).alloc (.cells #[.int .i64 m.c, .slice m.A m.xs.length m.k] 72))
        generalize hW : wr.alloc (.cells #[.int .i64 m.c, .slice m.A m.xs.length m.k] 72) = W at *
        clear hW
        go_region_held3 (fun w' => w'.cell? ⟨wr.heap.size, 0, none⟩ = some (.int .i64 m.c) ∧ w'.cell? ⟨wr.heap.size, 1, none⟩ = some (.slice m.A m.xs.length m.k) ∧ w'.cell? ⟨w.heap.size + 1, 0, none⟩ = some (.slice (some ⟨b', o', none⟩) ms'.length k') ∧ w'.cell? ⟨b', o' + j * 2, none⟩ = some (.int .i64 m'.c) ∧ w'.cell? ⟨b', o' + j * 2 + 1, none⟩ = some (.slice m'.A m'.xs.length m'.k)) (refine ⟨?_, ?_, ?_, ?_, ?_⟩ <;> ((repeat (first | with_reducible assumption | with_reducible refine keep (Ext.alloc (Ext.refl _) _) ?_ | with_reducible refine keep (Ext.drew (Ext.refl _)) ?_ | with_reducible refine keep (Ext.drewN (Ext.refl _) _) ?_ | with_reducible refine keep (by with_reducible assumption) ?_)); done)) (first | (go_at_call 59; refine (atomsOrder _ _ _ _ _ _ _ (hI1.ext (by repeat (first | with_reducible assumption | with_reducible exact Ext.refl _ | with_reducible apply Ext.drewN | with_reducible apply Ext.drew | with_reducible apply Ext.alloc | with_reducible refine Ext.set ?_ (by first | (simp; done) | (simp; omega)) _ | with_reducible refine Ext.next ?_ (by with_reducible assumption)))) (hI2.ext (by repeat (first | with_reducible assumption | with_reducible exact Ext.refl _ | with_reducible apply Ext.drewN | with_reducible apply Ext.drew | with_reducible apply Ext.alloc | with_reducible refine Ext.set ?_ (by first | (simp; done) | (simp; omega)) _ | with_reducible refine Ext.next ?_ (by with_reducible assumption)))) hsz hsz').mono ?_; rintro e w1 ⟨rfl, hw1⟩) | (go_at_call 70; refine (cmpCompare _ _ _).mono ?_; rintro e w' ⟨rfl, rfl⟩) | (go_at_call 69; refine (cmpOr _ _ (aOrd m.xs m'.xs) (cmpI m.c m'.c) _ ?_).mono ?_; exact Row.new _ _ _; rintro e w' ⟨rfl, rfl⟩))
        by_cases hz : orI (aOrd m.xs m'.xs) (cmpI m.c m'.c) = 0
        · have HZ := hid (show monoOrd m.dat m'.dat = 0 from hz)
          go_wp2
          go_roundw
          case rel => exact ⟨j + 1, by omega, by go_num, by rw [← HA.out, HS.out, HZ.out, orI_zero], (by repeat (first | with_reducible assumption | with_reducible exact Ext.refl _ | with_reducible apply Ext.drewN | with_reducible apply Ext.drew | with_reducible apply Ext.alloc | with_reducible refine Ext.set ?_ (by first | (simp; done) | (simp; omega)) _ | with_reducible refine Ext.next ?_ (by with_reducible assumption))), by (first | ((repeat (first | with_reducible assumption | with_reducible refine keep (Ext.alloc (Ext.refl _) _) ?_ | with_reducible refine keep (Ext.drew (Ext.refl _)) ?_ | with_reducible refine keep (Ext.drewN (Ext.refl _) _) ?_ | with_reducible refine keep (by with_reducible assumption) ?_)); done))⟩
          case measure => simp [intOf]; omega
        · have hzb : (orI (aOrd m.xs m'.xs) (cmpI m.c m'.c) != 0) = true := by rw [bne_iff_ne]; exact hz
          have HZ := hid (show polOrd (ms.map Mn.dat) (ms'.map Mn.dat) = orI (aOrd m.xs m'.xs) (cmpI m.c m'.c) by rw [HP.out, ← HA.out, HS.out]; exact orI_ne hz)
          clear hz
          go_wp2
          go_ret
          exact ⟨ret_int HZ.out.symm, (by repeat (first | with_reducible assumption | with_reducible exact Ext.refl _ | with_reducible apply Ext.drewN | with_reducible apply Ext.drew | with_reducible apply Ext.alloc | with_reducible refine Ext.set ?_ (by first | (simp; done) | (simp; omega)) _ | with_reducible refine Ext.next ?_ (by with_reducible assumption)))⟩
      · have HZ := hid (show polOrd (ms.map Mn.dat) (ms'.map Mn.dat) = 0 by rw [HP.out, ← HA.out, ord_out (by omega)])
        go_wp2
        go_ret
        exact ⟨ret_int HZ.out.symm, hext⟩
  · have HZ := hid (polOrd_lens hl)
    have hzb : (cmpI ms.length ms'.length != 0) = true := by rw [bne_iff_ne]; exact cmpI_ne (by omega)
    go_enter Try.func74, Try.ntmps74
    go_wp2_with (go_at_call 70; refine (cmpCompare _ _ _).mono ?_; rintro e w' ⟨rfl, rfl⟩)
    go_ret
    exact ⟨ret_int HZ.out.symm, (by repeat (first | with_reducible assumption | with_reducible exact Ext.refl _ | with_reducible apply Ext.drewN | with_reducible apply Ext.drew | with_reducible apply Ext.alloc | with_reducible refine Ext.set ?_ (by first | (simp; done) | (simp; omega)) _ | with_reducible refine Ext.next ?_ (by with_reducible assumption)))⟩

set_option maxHeartbeats 400000 in
theorem specPolOrder (A A' : Option Addr) (k k' : Nat) (ms ms' : List Mn) (w : World) (h : RM 72 3 w A ms) (h' : RM 72 3 w A' ms') (hs : SzM ms) (hs' : SzM ms') :
    Calls Try.prog 38 #[.agg #[.slice A ms.length k], .agg #[.slice A' ms'.length k']] w fun e w' => e = .returned (.int .i64 (polOrd (ms.map Mn.dat) (ms'.map Mn.dat))) ∧ Ext w w' := by
  have hn := hs.1
  have hn' := hs'.1
  by_cases h1 : ms.length < ms'.length
  · have h0 : (((ms.length : Nat) : Int) != ((ms'.length : Nat) : Int)) = true := by rw [bne_iff_ne]; omega
    have HZ := hid (show polOrd (ms.map Mn.dat) (ms'.map Mn.dat) = -1 by rw [polOrd_lens (by omega), cmpI, if_pos (by omega)])
    go_enter Try.func38, Try.ntmps38
    go_wp2
    go_ret
    exact ⟨ret_int HZ.out.symm, (by repeat (first | with_reducible assumption | with_reducible exact Ext.refl _ | with_reducible apply Ext.drewN | with_reducible apply Ext.drew | with_reducible apply Ext.alloc | with_reducible refine Ext.set ?_ (by first | (simp; done) | (simp; omega)) _ | with_reducible refine Ext.next ?_ (by with_reducible assumption)))⟩
  by_cases h2 : ms'.length < ms.length
  · have h0 : (((ms.length : Nat) : Int) != ((ms'.length : Nat) : Int)) = true := by rw [bne_iff_ne]; omega
    have HZ := hid (show polOrd (ms.map Mn.dat) (ms'.map Mn.dat) = 1 by rw [polOrd_lens (by omega), cmpI, if_neg (by omega), if_pos (by omega)])
    go_enter Try.func38, Try.ntmps38
    go_wp2
    go_ret
    exact ⟨ret_int HZ.out.symm, (by repeat (first | with_reducible assumption | with_reducible exact Ext.refl _ | with_reducible apply Ext.drewN | with_reducible apply Ext.drew | with_reducible apply Ext.alloc | with_reducible refine Ext.set ?_ (by first | (simp; done) | (simp; omega)) _ | with_reducible refine Ext.next ?_ (by with_reducible assumption)))⟩
  have hl : ms.length = ms'.length := by omega
  have h0 : (((ms.length : Nat) : Int) != ((ms'.length : Nat) : Int)) = false := by rw [hl]; simp
  have HP := hid (polOrd_same hl)
  have HL := hid hl
  clear h1 h2 hl
  go_enter Try.func38, Try.ntmps38
  go_wp2
  go_loopw [5] (fun i wr => ∃ j : Nat, j ≤ ms.length ∧ i = .int .i64 j ∧ ordL ((ms.drop j).map Mn.dat) ((ms'.drop j).map Mn.dat) = ordL (ms.map Mn.dat) (ms'.map Mn.dat) ∧ Ext w wr ∧ wr.cell? ⟨w.heap.size, 0, none⟩ = some (.slice A ms.length k) ∧ wr.cell? ⟨w.heap.size + 1, 0, none⟩ = some (.slice A' ms'.length k')) (fun i _ => ms.length - (intOf i).toNat)
  case atStart => exact ⟨0, Nat.zero_le _, rfl, by simp only [List.drop_zero], (by repeat (first | with_reducible assumption | with_reducible exact Ext.refl _ | with_reducible apply Ext.drewN | with_reducible apply Ext.drew | with_reducible apply Ext.alloc | with_reducible refine Ext.set ?_ (by first | (simp; done) | (simp; omega)) _ | with_reducible refine Ext.next ?_ (by with_reducible assumption))), by go_simp, by go_simp⟩
  case round =>
    obtain ⟨j, hj, rfl, heq, hext, hcp, hcq⟩ := hrel
    have HA := hid heq
    clear heq
    have hlt2 := World.block_lt_of_cell? wr _ hcq
    simp only at hlt2
    have hlt1 : w.heap.size < wr.heap.size := by omega
    by_cases hlt : j < ms.length
    · obtain ⟨b, o, m, rfl, hb, hm, hc0, hc1, hI⟩ := (h.ext hext).at_ hlt
      obtain ⟨b', o', m', rfl, hb', hm', hd0, hd1, hI'⟩ := (h'.ext hext).at_ (i := j) (by rw [← HL.out]; exact hlt)
      have hlt' : j < ms'.length := by rw [← HL.out]; exact hlt
      have hsz := hs.at_ hm
      have hsz' := hs'.at_ hm'
      have HS := hid (ord_step hm hm')
      clear hm hm' h h'
      by_cases hz : aOrd m.xs m'.xs = 0
      · have hz' := hid hz
        go_wp2
        refine wp_region_over (by kernel_rfl) (by kernel_rfl) ?_
        repeat (go_big_quiet_step ((go_at_call 56; exact calls_over (specOrder _ _ _ _ _ _ _ ((hI.ext (by repeat (first | with_reducible assumption | with_reducible exact Ext.refl _ | with_reducible apply Ext.drewN | with_reducible apply Ext.drew | with_reducible apply Ext.alloc | with_reducible refine Ext.set ?_ (by first | (simp; done) | (simp; omega)) _ | with_reducible refine Ext.next ?_ (by with_reducible assumption)))).ext (Over.ext _)) ((hI'.ext (by repeat (first | with_reducible assumption | with_reducible exact Ext.refl _ | with_reducible apply Ext.drewN | with_reducible apply Ext.drew | with_reducible apply Ext.alloc | with_reducible refine Ext.set ?_ (by first | (simp; done) | (simp; omega)) _ | with_reducible refine Ext.next ?_ (by with_reducible assumption)))).ext (Over.ext _)) hsz hsz'))))
        refine wpQuiet_nil ?_
        rintro _ ⟨⟨wq, hwq⟩, rfl⟩
        have g0 := keep hwq hc0
        have g1 := keep hwq hd0
        have g2 := keep hwq hcp
        have g3 := keep hwq hcq
        clear hc0 hc1 hd0 hd1
        have hb2 := lt_ext hwq hb
        have hb3 := lt_ext hwq hb'
        have hlt3 := lt_ext hwq hlt2
        have hlt4 := lt_ext hwq hlt1
        have hx2 := hext.next hwq
        clear hcp hcq hb hb' hlt2 hlt1 hwq
        by_cases hc : m.c = m'.c
        · have hcb : (m.c != m'.c) = false := by rw [hc]; simp
          have HZ := hid (show monoOrd m.dat m'.dat = 0 by show orI (aOrd m.xs m'.xs) (cmpI m.c m'.c) = 0; rw [hz'.out, orI_zero, hc, cmpI_self])
          have HC := hid hc
          clear hc
          go_wp2
          refine wp_region_over (by kernel_rfl) (by kernel_rfl) ?_
          repeat (go_big_quiet_step (fail))
          refine wpQuiet_nil ?_
          rintro _ ⟨⟨wq, hwq⟩, rfl⟩
          go_wp2
          go_roundw
          case rel => exact ⟨j + 1, by omega, by go_num, by rw [← HA.out, HS.out, HZ.out, orI_zero], hx2.next hwq, keep hwq g2, keep hwq g3⟩
          case measure => simp [intOf]; omega
        · have hcb : (m.c != m'.c) = true := by rw [bne_iff_ne]; exact hc
          by_cases hd : m.c < m'.c
          · have HZ := hid (show polOrd (ms.map Mn.dat) (ms'.map Mn.dat) = -1 by
              have e : monoOrd m.dat m'.dat = -1 := by show orI (aOrd m.xs m'.xs) (cmpI m.c m'.c) = -1; rw [hz'.out, orI_zero, cmpI, if_pos hd]
              rw [HP.out, ← HA.out, HS.out, e]; exact orI_ne (by omega))
            go_wp2
            refine wp_region_over (by kernel_rfl) (by kernel_rfl) ?_
            repeat (go_big_quiet_step (fail))
            refine wpQuiet_nil ?_
            rintro _ ⟨⟨wq, hwq⟩, rfl⟩
            have f0 := keep hwq g0
            have f1 := keep hwq g1
            have f2 := keep hwq g2
            have f3 := keep hwq g3
            have i1 := lt_ext hwq hb2
            have i2 := lt_ext hwq hb3
            have i3 := lt_ext hwq hlt3
            have i4 := lt_ext hwq hlt4
            have hx3 := hx2.next hwq
            clear hx2 hwq
            go_wp2
            refine wp_region_over (by kernel_rfl) (by kernel_rfl) ?_
            repeat (go_big_quiet_step (fail))
            refine wpQuiet_nil ?_
            rintro _ ⟨⟨wq, hwq⟩, rfl⟩
            go_wp2
            go_ret
            exact ⟨ret_int HZ.out.symm, hx3.next hwq⟩
          · have HZ := hid (show polOrd (ms.map Mn.dat) (ms'.map Mn.dat) = 1 by
              have e : monoOrd m.dat m'.dat = 1 := by show orI (aOrd m.xs m'.xs) (cmpI m.c m'.c) = 1; rw [hz'.out, orI_zero, cmpI, if_neg hd, if_pos (by omega)]
              rw [HP.out, ← HA.out, HS.out, e]; exact orI_ne (by omega))
            go_wp2
            refine wp_region_over (by kernel_rfl) (by kernel_rfl) ?_
            repeat (go_big_quiet_step (fail))
            refine wpQuiet_nil ?_
            rintro _ ⟨⟨wq, hwq⟩, rfl⟩
            have f0 := keep hwq g0
            have f1 := keep hwq g1
            have f2 := keep hwq g2
            have f3 := keep hwq g3
            have i1 := lt_ext hwq hb2
            have i2 := lt_ext hwq hb3
            have i3 := lt_ext hwq hlt3
            have i4 := lt_ext hwq hlt4
            have hx3 := hx2.next hwq
            clear hx2 hwq
            go_wp2
            refine wp_region_over (by kernel_rfl) (by kernel_rfl) ?_
            repeat (go_big_quiet_step (fail))
            refine wpQuiet_nil ?_
            rintro _ ⟨⟨wq, hwq⟩, rfl⟩
            go_wp2
            go_ret
            exact ⟨ret_int HZ.out.symm, hx3.next hwq⟩
      · have hzb : (aOrd m.xs m'.xs != 0) = true := by rw [bne_iff_ne]; exact hz
        have HZ := hid (show polOrd (ms.map Mn.dat) (ms'.map Mn.dat) = aOrd m.xs m'.xs by
          have e : monoOrd m.dat m'.dat = aOrd m.xs m'.xs := orI_ne hz
          rw [HP.out, ← HA.out, HS.out, e]; exact orI_ne hz)
        clear hz
        go_wp2
        refine wp_region_over (by kernel_rfl) (by kernel_rfl) ?_
        repeat (go_big_quiet_step ((go_at_call 56; exact calls_over (specOrder _ _ _ _ _ _ _ ((hI.ext (by repeat (first | with_reducible assumption | with_reducible exact Ext.refl _ | with_reducible apply Ext.drewN | with_reducible apply Ext.drew | with_reducible apply Ext.alloc | with_reducible refine Ext.set ?_ (by first | (simp; done) | (simp; omega)) _ | with_reducible refine Ext.next ?_ (by with_reducible assumption)))).ext (Over.ext _)) ((hI'.ext (by repeat (first | with_reducible assumption | with_reducible exact Ext.refl _ | with_reducible apply Ext.drewN | with_reducible apply Ext.drew | with_reducible apply Ext.alloc | with_reducible refine Ext.set ?_ (by first | (simp; done) | (simp; omega)) _ | with_reducible refine Ext.next ?_ (by with_reducible assumption)))).ext (Over.ext _)) hsz hsz'))))
        refine wpQuiet_nil ?_
        rintro _ ⟨⟨wq, hwq⟩, rfl⟩
        go_wp2
        go_ret
        exact ⟨ret_int HZ.out.symm, hext.next hwq⟩
    · have HZ := hid (show polOrd (ms.map Mn.dat) (ms'.map Mn.dat) = 0 by rw [HP.out, ← HA.out, ord_out (by omega)])
      go_wp2
      go_ret
      exact ⟨ret_int HZ.out.symm, hext⟩
end Go.Proofs.Ytkdggfkigjpbfaa
