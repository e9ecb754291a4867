/- Whether a table is well made: contracts of TabOk of both sides. Conditions: lengths that a machine can hold. -/
import Derived.Test.YtkdggfkigjpbfaaTH
namespace Go.Proofs.Ytkdggfkigjpbfaa
open Go Go.RowKit
set_option linter.unusedVariables false
set_option linter.unusedSimpArgs false

set_option maxHeartbeats 2000000 in
theorem implTabOk (A : Option Addr) (k : Nat) (ts : List Tn) (w : World) (h : RT 46 72 3 w A ts) (hs : SzT ts) :
    Calls Try.prog 8 #[.agg #[.slice A ts.length k]] w fun e w' => e = .returned (.bool (tabOk (ts.map Tn.dat))) ∧ Ext w w' := by
  have hn := hs.1
  have HL := hid (show (ts.map Tn.dat).length = ts.length by simp)
  go_enter Try.func8, Try.ntmps8
  go_wp2
  go_loopw [8] (fun i wr => ∃ j : Nat, j ≤ ts.length ∧ i = .int .i64 j ∧ GoodTo (ts.map Tn.dat) j ∧ wr.cell? ⟨w.heap.size, 0, none⟩ = some (.slice A ts.length k) ∧ Ext w wr) (fun i _ => ts.length - (intOf i).toNat)
  case atStart => exact ⟨0, Nat.zero_le _, rfl, GoodTo.zero _, by go_simp, (by repeat (first | with_reducible assumption | with_reducible exact Ext.refl _ | with_reducible apply Ext.drewN | with_reducible apply Ext.drew | with_reducible apply Ext.alloc | with_reducible refine Ext.set ?_ (by first | (simp; done) | (simp; omega)) _ | with_reducible refine Ext.next ?_ (by with_reducible assumption)))⟩
  case round =>
    obtain ⟨j, hj, rfl, hgood, hcell, hext⟩ := hrel
    have HG := hid hgood
    clear hgood
    have hlw := World.block_lt_of_cell? _ _ hcell
    simp only at hlw
    by_cases hlt : j < ts.length
    · obtain ⟨b, o, m, rfl, hb, hm, d0, d1, d2, d3, hI1, hI2⟩ := (h.ext hext).at_ hlt
      have HX := hid hm
      have hsz := hs.at_ hm
      have HRT := hid (h.ext hext)
      have HF := hid (idxF_dat hm)
      clear hm h
      cases ok : atomOk j m.dat
      · have HB := hid (tabOk_bad (datT HX.out) ok)
        have OK := hid ok
        clear ok
        go_wp2_with fail
        refine (implAtom m _ _ ⟨hI1.ext (by repeat (first | with_reducible assumption | with_reducible exact Ext.refl _ | with_reducible apply Ext.drewN | with_reducible apply Ext.drew | with_reducible apply Ext.alloc | with_reducible refine Ext.set ?_ (by first | (simp; done) | (simp; omega)) _ | with_reducible refine Ext.next ?_ (by with_reducible assumption))), hI2.ext (by repeat (first | with_reducible assumption | with_reducible exact Ext.refl _ | with_reducible apply Ext.drewN | with_reducible apply Ext.drew | with_reducible apply Ext.alloc | with_reducible refine Ext.set ?_ (by first | (simp; done) | (simp; omega)) _ | with_reducible refine Ext.next ?_ (by with_reducible assumption)))⟩ hsz).mono ?_
        rintro e w1 ⟨rfl, hw1⟩
        rw [OK.out]
        go_wp2
        go_ret
        exact ⟨ret_bool HB.out.symm, (by repeat (first | with_reducible assumption | with_reducible exact Ext.refl _ | with_reducible apply Ext.drewN | with_reducible apply Ext.drew | with_reducible apply Ext.alloc | with_reducible refine Ext.set ?_ (by first | (simp; done) | (simp; omega)) _ | with_reducible refine Ext.next ?_ (by with_reducible assumption)))⟩
      · have OK := hid ok
        clear ok
        go_wp2_with fail
        refine (implAtom m _ _ ⟨hI1.ext (by repeat (first | with_reducible assumption | with_reducible exact Ext.refl _ | with_reducible apply Ext.drewN | with_reducible apply Ext.drew | with_reducible apply Ext.alloc | with_reducible refine Ext.set ?_ (by first | (simp; done) | (simp; omega)) _ | with_reducible refine Ext.next ?_ (by with_reducible assumption))), hI2.ext (by repeat (first | with_reducible assumption | with_reducible exact Ext.refl _ | with_reducible apply Ext.drewN | with_reducible apply Ext.drew | with_reducible apply Ext.alloc | with_reducible refine Ext.set ?_ (by first | (simp; done) | (simp; omega)) _ | with_reducible refine Ext.next ?_ (by with_reducible assumption)))⟩ hsz).mono ?_
        rintro e w1 ⟨rfl, hw1⟩
        rw [OK.out]
        obtain ⟨hc1, hf1⟩ := bcell_ hw1
        have hz1 : wr.heap.size < w1.heap.size := by have := hw1.size; simp at this; omega
        have hy1 : w.heap.size < w1.heap.size := by omega
        go_wp2_with fail
        refine (findAtom _ _ ts m _ (HRT.out.ext (by repeat (first | with_reducible assumption | with_reducible exact Ext.refl _ | with_reducible apply Ext.drewN | with_reducible apply Ext.drew | with_reducible apply Ext.alloc | with_reducible refine Ext.set ?_ (by first | (simp; done) | (simp; omega)) _ | with_reducible refine Ext.next ?_ (by with_reducible assumption)))) hs ⟨hI1.ext (by repeat (first | with_reducible assumption | with_reducible exact Ext.refl _ | with_reducible apply Ext.drewN | with_reducible apply Ext.drew | with_reducible apply Ext.alloc | with_reducible refine Ext.set ?_ (by first | (simp; done) | (simp; omega)) _ | with_reducible refine Ext.next ?_ (by with_reducible assumption))), hI2.ext (by repeat (first | with_reducible assumption | with_reducible exact Ext.refl _ | with_reducible apply Ext.drewN | with_reducible apply Ext.drew | with_reducible apply Ext.alloc | with_reducible refine Ext.set ?_ (by first | (simp; done) | (simp; omega)) _ | with_reducible refine Ext.next ?_ (by with_reducible assumption)))⟩ hsz).mono ?_
        rintro e w2 ⟨rfl, hw2⟩
        obtain ⟨hc2, hf2⟩ := bcell_ hw2
        rcases HF.out with ⟨e1, e2⟩ | ⟨e1, t, ht, e2⟩
        · have HS := hid (HG.out.step (datT HX.out) OK.out e2)
          rw [e1]
          have hbn : ((j : Int) != (j : Int)) = false := by simp
          clear e2 e1
          go_wp2
          go_roundw
          case rel => exact ⟨j + 1, by omega, by go_num, HS.out, by go_simp, (by repeat (first | with_reducible assumption | with_reducible exact Ext.refl _ | with_reducible apply Ext.drewN | with_reducible apply Ext.drew | with_reducible apply Ext.alloc | with_reducible refine Ext.set ?_ (by first | (simp; done) | (simp; omega)) _ | with_reducible refine Ext.next ?_ (by with_reducible assumption)))⟩
          case measure => simp [intOf]; omega
        · have HB := hid (tabOk_twice (datT HX.out) ht e2)
          generalize idxF (fun b : Tn => decide (m.dat = b.dat)) ts = q at *
          have hbn : (q != (j : Int)) = true := by rw [bne, e1]; rfl
          clear e2 ht HF
          go_wp2
          go_ret
          exact ⟨ret_bool HB.out.symm, (by repeat (first | with_reducible assumption | with_reducible exact Ext.refl _ | with_reducible apply Ext.drewN | with_reducible apply Ext.drew | with_reducible apply Ext.alloc | with_reducible refine Ext.set ?_ (by first | (simp; done) | (simp; omega)) _ | with_reducible refine Ext.next ?_ (by with_reducible assumption)))⟩
    · obtain rfl : j = ts.length := by omega
      have HE := hid (show tabOk (ts.map Tn.dat) = decide ((ts.length : Int) ≤ 200) by
        rw [tabOk_all (by rw [HL.out]; exact HG.out), HL.out]
        exact decide_eq_decide.2 (by omega))
      go_wp2
      go_ret
      exact ⟨ret_bool HE.out.symm, (by repeat (first | with_reducible assumption | with_reducible exact Ext.refl _ | with_reducible apply Ext.drewN | with_reducible apply Ext.drew | with_reducible apply Ext.alloc | with_reducible refine Ext.set ?_ (by first | (simp; done) | (simp; omega)) _ | with_reducible refine Ext.next ?_ (by with_reducible assumption)))⟩

theorem specAtmSame_v (t t' : Tn) (w : World) (h : RM 72 3 w t.A1 t.xs ∧ RM 72 3 w t.A2 t.ys) (h' : RM 72 3 w t'.A1 t'.xs ∧ RM 72 3 w t'.A2 t'.ys) (s : SzM t.xs ∧ SzM t.ys) (s' : SzM t'.xs ∧ SzM t'.ys) {v : Bool} (hv : decide (t.dat = t'.dat) = v) :
    Calls Try.prog 19 #[t.val, t'.val] w fun e w' => e = .returned (.bool v) ∧ Ext w w' := by
  subst hv
  exact specAtmSame t t' w h h' s s'
set_option maxHeartbeats 2000000 in
theorem specTabOk (A : Option Addr) (k : Nat) (ts : List Tn) (w : World) (h : RT 46 72 3 w A ts) (hs : SzT ts) :
    Calls Try.prog 6 #[.agg #[.slice A ts.length k]] w fun e w' => e = .returned (.bool (tabOk (ts.map Tn.dat))) ∧ Ext w w' := by
  have hn := hs.1
  have HL := hid (show (ts.map Tn.dat).length = ts.length by simp)
  by_cases hlong : 200 < ts.length
  · have HB := hid (tabOk_long (d := ts.map Tn.dat) (by rw [HL.out]; exact hlong))
    go_enter Try.func6, Try.ntmps6
    go_wp2
    go_ret
    exact ⟨ret_bool HB.out.symm, (by repeat (first | with_reducible assumption | with_reducible exact Ext.refl _ | with_reducible apply Ext.drewN | with_reducible apply Ext.drew | with_reducible apply Ext.alloc | with_reducible refine Ext.set ?_ (by first | (simp; done) | (simp; omega)) _ | with_reducible refine Ext.next ?_ (by with_reducible assumption)))⟩
  go_enter Try.func6, Try.ntmps6
  go_wp2
  go_loopw [3] (fun i wr => ∃ j : Nat, j ≤ ts.length ∧ i = .int .i64 j ∧ GoodTo (ts.map Tn.dat) j ∧ wr.cell? ⟨w.heap.size, 0, none⟩ = some (.slice A ts.length k) ∧ Ext w wr) (fun i _ => ts.length - (intOf i).toNat)
  case atStart => exact ⟨0, Nat.zero_le _, rfl, GoodTo.zero _, by go_simp, (by repeat (first | with_reducible assumption | with_reducible exact Ext.refl _ | with_reducible apply Ext.drewN | with_reducible apply Ext.drew | with_reducible apply Ext.alloc | with_reducible refine Ext.set ?_ (by first | (simp; done) | (simp; omega)) _ | with_reducible refine Ext.next ?_ (by with_reducible assumption)))⟩
  case round =>
    obtain ⟨j, hj, rfl, hgood, hcell, hext⟩ := hrel
    have HG := hid hgood
    clear hgood
    have hlw := World.block_lt_of_cell? _ _ hcell
    simp only at hlw
    by_cases hlt : j < ts.length
    · obtain ⟨b, o, m, rfl, hb, hm, d0, d1, d2, d3, hI1, hI2⟩ := (h.ext hext).at_ hlt
      have HX := hid hm
      have hsz := hs.at_ hm
      have HRT := hid (h.ext hext)
      clear hm h
      cases ok : atomOk j m.dat
      · have HB := hid (tabOk_bad (datT HX.out) ok)
        have OK := hid ok
        clear ok
        go_wp2_with fail
        refine (specAtom m _ _ ⟨hI1.ext (by repeat (first | with_reducible assumption | with_reducible exact Ext.refl _ | with_reducible apply Ext.drewN | with_reducible apply Ext.drew | with_reducible apply Ext.alloc | with_reducible refine Ext.set ?_ (by first | (simp; done) | (simp; omega)) _ | with_reducible refine Ext.next ?_ (by with_reducible assumption))), hI2.ext (by repeat (first | with_reducible assumption | with_reducible exact Ext.refl _ | with_reducible apply Ext.drewN | with_reducible apply Ext.drew | with_reducible apply Ext.alloc | with_reducible refine Ext.set ?_ (by first | (simp; done) | (simp; omega)) _ | with_reducible refine Ext.next ?_ (by with_reducible assumption)))⟩ hsz).mono ?_
        rintro e w1 ⟨rfl, hw1⟩
        rw [OK.out]
        go_wp2
        go_ret
        exact ⟨ret_bool HB.out.symm, (by repeat (first | with_reducible assumption | with_reducible exact Ext.refl _ | with_reducible apply Ext.drewN | with_reducible apply Ext.drew | with_reducible apply Ext.alloc | with_reducible refine Ext.set ?_ (by first | (simp; done) | (simp; omega)) _ | with_reducible refine Ext.next ?_ (by with_reducible assumption)))⟩
      · have OK := hid ok
        clear ok
        go_wp2_with fail
        refine (specAtom m _ _ ⟨hI1.ext (by repeat (first | with_reducible assumption | with_reducible exact Ext.refl _ | with_reducible apply Ext.drewN | with_reducible apply Ext.drew | with_reducible apply Ext.alloc | with_reducible refine Ext.set ?_ (by first | (simp; done) | (simp; omega)) _ | with_reducible refine Ext.next ?_ (by with_reducible assumption))), hI2.ext (by repeat (first | with_reducible assumption | with_reducible exact Ext.refl _ | with_reducible apply Ext.drewN | with_reducible apply Ext.drew | with_reducible apply Ext.alloc | with_reducible refine Ext.set ?_ (by first | (simp; done) | (simp; omega)) _ | with_reducible refine Ext.next ?_ (by with_reducible assumption)))⟩ hsz).mono ?_
        rintro e w1 ⟨rfl, hw1⟩
        rw [OK.out]
        have HX1 := hid (hext.next hw1)
        have hcell1 := keep hw1 hcell
        have hlw1 := lt_ext hw1 hlw
        have HRT1 := hid (HRT.out.ext hw1)
        have p0 := keep hw1 d0
        have p1 := keep hw1 d1
        have p2 := keep hw1 d2
        have p3 := keep hw1 d3
        have HI1 := hid (hI1.ext hw1)
        have HI2 := hid (hI2.ext hw1)
        have hb1 := lt_ext hw1 hb
        clear hext hw1 hcell hlw d0 d1 d2 d3 hI1 hI2 HRT hb
        go_wp2
        go_loopw [4] (fun i ws => ∃ q : Nat, q ≤ j ∧ i = .int .i64 q ∧ (∀ t, t < q → (ts.map Tn.dat)[t]? ≠ some m.dat) ∧ Ext w1 ws) (fun i _ => j - (intOf i).toNat)
        case atStart => exact ⟨0, Nat.zero_le _, rfl, fun t ht => absurd ht (by omega), Ext.refl _⟩
        case round =>
          obtain ⟨q, hq, rfl, hnone, hext2⟩ := hrel
          have HN := hid hnone
          clear hnone
          have hcell2 := keep hext2 hcell1
          have hlw2 := lt_ext hext2 hlw1
          by_cases hlq : q < j
          · obtain ⟨b', o', mq, e, hb', hmq, z0, z1, z2, z3, hJ1, hJ2⟩ := (HRT1.out.ext hext2).at_ (i := q) (by omega)
            injection e with e
            injection e with e1 e2
            subst e1 e2
            have HQ := hid hmq
            have hsq := hs.at_ hmq
            have y0 := keep hext2 p0
            have y1 := keep hext2 p1
            have y2 := keep hext2 p2
            have y3 := keep hext2 p3
            have hqn : q < ts.length := by omega
            clear hmq
            cases hv : decide (mq.dat = m.dat)
            · have HV := hid hv
              clear hv
              go_wp2
              refine wp_region_over (by kernel_rfl) (by kernel_rfl) ?_
              repeat (go_big_quiet_step ((go_at_call 19; exact calls_over (specAtmSame_v mq m _ ⟨(hJ1.ext (by repeat (first | with_reducible assumption | with_reducible exact Ext.refl _ | with_reducible apply Ext.drewN | with_reducible apply Ext.drew | with_reducible apply Ext.alloc | with_reducible refine Ext.set ?_ (by first | (simp; done) | (simp; omega)) _ | with_reducible refine Ext.next ?_ (by with_reducible assumption)))).ext (Over.ext _), (hJ2.ext (by repeat (first | with_reducible assumption | with_reducible exact Ext.refl _ | with_reducible apply Ext.drewN | with_reducible apply Ext.drew | with_reducible apply Ext.alloc | with_reducible refine Ext.set ?_ (by first | (simp; done) | (simp; omega)) _ | with_reducible refine Ext.next ?_ (by with_reducible assumption)))).ext (Over.ext _)⟩ ⟨((HI1.out.ext hext2).ext (by repeat (first | with_reducible assumption | with_reducible exact Ext.refl _ | with_reducible apply Ext.drewN | with_reducible apply Ext.drew | with_reducible apply Ext.alloc | with_reducible refine Ext.set ?_ (by first | (simp; done) | (simp; omega)) _ | with_reducible refine Ext.next ?_ (by with_reducible assumption)))).ext (Over.ext _), ((HI2.out.ext hext2).ext (by repeat (first | with_reducible assumption | with_reducible exact Ext.refl _ | with_reducible apply Ext.drewN | with_reducible apply Ext.drew | with_reducible apply Ext.alloc | with_reducible refine Ext.set ?_ (by first | (simp; done) | (simp; omega)) _ | with_reducible refine Ext.next ?_ (by with_reducible assumption)))).ext (Over.ext _)⟩ hsq hsz HV.out))))
              refine wpQuiet_nil ?_
              rintro _ ⟨⟨wq, hwq⟩, rfl⟩
              go_wp2
              go_roundw
              case rel =>
                refine ⟨q + 1, by omega, by go_num, fun t ht => ?_, (by repeat (first | with_reducible assumption | with_reducible exact Ext.refl _ | with_reducible apply Ext.drewN | with_reducible apply Ext.drew | with_reducible apply Ext.alloc | with_reducible refine Ext.set ?_ (by first | (simp; done) | (simp; omega)) _ | with_reducible refine Ext.next ?_ (by with_reducible assumption)))⟩
                rcases Nat.lt_or_ge t q with h1 | h1
                · exact HN.out t h1
                · obtain rfl : t = q := by omega
                  rw [datT HQ.out]
                  intro e
                  injection e with e
                  exact of_decide_eq_false HV.out e
              case measure => simp [intOf]; omega
            · have HV := hid hv
              have HB := hid (tabOk_twice (datT HX.out) hlq (by rw [datT HQ.out, of_decide_eq_true hv]))
              clear hv
              go_wp2
              refine wp_region_over (by kernel_rfl) (by kernel_rfl) ?_
              repeat (go_big_quiet_step ((go_at_call 19; exact calls_over (specAtmSame_v mq m _ ⟨(hJ1.ext (by repeat (first | with_reducible assumption | with_reducible exact Ext.refl _ | with_reducible apply Ext.drewN | with_reducible apply Ext.drew | with_reducible apply Ext.alloc | with_reducible refine Ext.set ?_ (by first | (simp; done) | (simp; omega)) _ | with_reducible refine Ext.next ?_ (by with_reducible assumption)))).ext (Over.ext _), (hJ2.ext (by repeat (first | with_reducible assumption | with_reducible exact Ext.refl _ | with_reducible apply Ext.drewN | with_reducible apply Ext.drew | with_reducible apply Ext.alloc | with_reducible refine Ext.set ?_ (by first | (simp; done) | (simp; omega)) _ | with_reducible refine Ext.next ?_ (by with_reducible assumption)))).ext (Over.ext _)⟩ ⟨((HI1.out.ext hext2).ext (by repeat (first | with_reducible assumption | with_reducible exact Ext.refl _ | with_reducible apply Ext.drewN | with_reducible apply Ext.drew | with_reducible apply Ext.alloc | with_reducible refine Ext.set ?_ (by first | (simp; done) | (simp; omega)) _ | with_reducible refine Ext.next ?_ (by with_reducible assumption)))).ext (Over.ext _), ((HI2.out.ext hext2).ext (by repeat (first | with_reducible assumption | with_reducible exact Ext.refl _ | with_reducible apply Ext.drewN | with_reducible apply Ext.drew | with_reducible apply Ext.alloc | with_reducible refine Ext.set ?_ (by first | (simp; done) | (simp; omega)) _ | with_reducible refine Ext.next ?_ (by with_reducible assumption)))).ext (Over.ext _)⟩ hsq hsz HV.out))))
              refine wpQuiet_nil ?_
              rintro _ ⟨⟨wq, hwq⟩, rfl⟩
              have hX := HX1.out
              go_wp2
              go_ret
              exact ⟨ret_bool HB.out.symm, (by repeat (first | with_reducible assumption | with_reducible exact Ext.refl _ | with_reducible apply Ext.drewN | with_reducible apply Ext.drew | with_reducible apply Ext.alloc | with_reducible refine Ext.set ?_ (by first | (simp; done) | (simp; omega)) _ | with_reducible refine Ext.next ?_ (by with_reducible assumption)))⟩
          · obtain rfl : q = j := by omega
            have HS := hid (HG.out.step (datT HX.out) OK.out HN.out)
            have hX := HX1.out
            go_wp2
            go_roundw
            case rel => exact ⟨q + 1, by omega, by go_num, HS.out, hcell2, (by repeat (first | with_reducible assumption | with_reducible exact Ext.refl _ | with_reducible apply Ext.drewN | with_reducible apply Ext.drew | with_reducible apply Ext.alloc | with_reducible refine Ext.set ?_ (by first | (simp; done) | (simp; omega)) _ | with_reducible refine Ext.next ?_ (by with_reducible assumption)))⟩
            case measure => simp [intOf]; omega
    · obtain rfl : j = ts.length := by omega
      have HE := hid (show tabOk (ts.map Tn.dat) = true by
        rw [tabOk_all (by rw [HL.out]; exact HG.out), HL.out]
        exact decide_eq_true (by omega))
      go_wp2
      go_ret
      exact ⟨ret_bool HE.out.symm, (by repeat (first | with_reducible assumption | with_reducible exact Ext.refl _ | with_reducible apply Ext.drewN | with_reducible apply Ext.drew | with_reducible apply Ext.alloc | with_reducible refine Ext.set ?_ (by first | (simp; done) | (simp; omega)) _ | with_reducible refine Ext.next ?_ (by with_reducible assumption)))⟩
end Go.Proofs.Ytkdggfkigjpbfaa
