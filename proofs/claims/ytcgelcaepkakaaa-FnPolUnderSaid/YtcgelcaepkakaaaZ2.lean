/- Contract of the program's own sum of parts in any order: the walk. Conditions: fewer than 2^20 parts, each a word with at most 2^20 atoms. -/
import Derived.Test.YtcgelcaepkakaaaZ
import Derived.Deep.RegionHeld3
namespace Go.Proofs.Ytcgelcaepkakaaa
open Go Go.RowKit
set_option linter.unusedVariables false
set_option linter.unusedSimpArgs false

/-- A sum of its own memory, and whether it fits. -/
def RetP (TM TI : TypeId) (w : World) (r : List Mono × Bool) (S : Nat → Prop) (e : Ending) (w' : World) : Prop :=
  ∃ A k ms, e = .returned (.tuple #[.agg #[.slice A ms.length k], .bool r.2]) ∧ ms.map Mn.dat = r.1 ∧ OM TM TI w' w.heap.size A k ms ∧ Upd S w w'

theorem inn_len {ms : List Mn} {i j : Nat} {c : Int} {k0 : List Int} (h : Inn ms i j c k0) : 0 ≤ c ∧ c ≤ 65535 := ⟨h.lo, h.hi⟩

set_option maxRecDepth 100000 in
set_option maxHeartbeats 2000000 in
theorem implSum (A : Option Addr) (k lo : Nat) (ms : List Mn) (w : World) (h : LM 73 3 w lo A k ms) (hlo : lo ≤ w.heap.size) (hn : ms.length < 1048576) (hx : ∀ m ∈ ms, m.xs.length < 1048576) (hc : ∀ m ∈ ms, 0 ≤ m.c ∧ m.c ≤ 65535) (ha : ∀ m ∈ ms, atomsOk m.xs) :
    Calls Try.prog 60 #[.slice A ms.length k] w (RetP 73 3 w (fitP (norm (ms.map Mn.dat))) (atB A)) := by
  have HA := hid ha
  clear ha
  go_enter Try.func60, Try.ntmps60
  go_wp2_with fail
  refine (sortStable _ _ lo ms _ (h.ext (by repeat (first | with_reducible assumption | with_reducible exact Ext.refl _ | with_reducible apply Ext.drewN | with_reducible apply Ext.drew | with_reducible apply Ext.alloc | with_reducible refine Ext.set ?_ (by first | (simp; done) | (simp; omega)) _ | with_reducible refine Ext.next ?_ (by with_reducible assumption)))) (by omega) (fun m hm => by have := hx m hm; omega)).mono ?_
  rintro e w1 ⟨rfl, L, ho, hp, hs, hu⟩
  have HP := hid hp
  have HS : Hid (SrtF (key L) 0 L.length) := hid (by rw [hp.length_eq]; exact hs)
  have HU := hid hu
  have HL : Hid (L.length = ms.length) := hid hp.length_eq
  have hz1 : w.heap.size < w1.heap.size := by have := hu.size; simp at this; omega
  have r0 : w1.cell? ⟨w.heap.size, 0, none⟩ = some (.slice none 0 0) := (hu.cell (p := ⟨w.heap.size, 0, none⟩) (by simp) (fun hb => by have := (own_atB h.1 hb).2; simp only at this; omega)).trans (by go_simp)
  have rf : w1.frozen? ⟨w.heap.size, 0, none⟩ = false := (hu.frozen (p := ⟨w.heap.size, 0, none⟩) (by simp) (fun hb => by have := (own_atB h.1 hb).2; simp only at this; omega)).trans (by go_simp)
  have HC : Hid (∀ m ∈ L, 0 ≤ m.c ∧ m.c ≤ 65535) := hid fun m hm => hc m (hp.subset hm)
  have HX : Hid (∀ m ∈ L, m.xs.length < 1048576) := hid fun m hm => hx m (hp.subset hm)
  clear hp hs hu hc hx h
  obtain ⟨n, hn'⟩ : ∃ n, n = ms.length := ⟨_, rfl⟩
  rw [← hn'] at hn
  have HN := hid (HL.out.trans hn'.symm)
  rw [← hn']
  clear hn'
  go_wp2
  go_loopw [5, 6, 7] (fun si sc sf wr => ∃ (i : Nat) (B : Option Addr) (kb : Nat) (os : List Mn), i ≤ n ∧ si = .int .i64 i ∧ wr.cell? ⟨w1.heap.size, 0, none⟩ = some (.slice B os.length kb) ∧ wr.frozen? ⟨w1.heap.size, 0, none⟩ = false ∧ OM 73 3 wr (w1.heap.size + 1) B kb os ∧ os.length ≤ i ∧ Grp L (os.map Mn.dat) i ∧ Ext w1 wr) (fun si _ _ _ => n - (intOf si).toNat)
  case atStart => exact ⟨0, none, 0, [], Nat.zero_le _, rfl, by go_simp, by go_simp, OM.nil _ _, Nat.le_refl _, grp_start _, (by repeat (first | with_reducible assumption | with_reducible exact Ext.refl _ | with_reducible apply Ext.drewN | with_reducible apply Ext.drew | with_reducible apply Ext.alloc | with_reducible refine Ext.set ?_ (by first | (simp; done) | (simp; omega)) _ | with_reducible refine Ext.next ?_ (by with_reducible assumption)))⟩
  case round =>
    obtain ⟨i, B, kb, os, hi, rfl, po, pf, hos, hol, hG, hext⟩ := hrel
    have HG := hid hG
    clear hG
    have hsz := hext.size
    by_cases hlt : i < n
    · have hlL : i < L.length := by rw [HN.out]; exact hlt
      have hm : L[i]? = some L[i] := List.getElem?_eq_getElem hlL
      generalize L[i] = m at hm
      have HM := hid hm
      have ho1 := ho.ext hext
      obtain ⟨g, rfl, hlo', hg, c0, c1, f0, f1⟩ := ho1.form hm
      have hJ := (ho1.2 m (List.mem_of_getElem? hm))
      have hxm := HX.out m (List.mem_of_getElem? hm)
      clear hm ho1 f0 f1 hlL
      obtain ⟨wo, rfl⟩ : ∃ wo : World, wo = wr := ⟨_, rfl⟩
      go_wp2
      go_region
      go_wp2
      have hp1 := World.block_lt_of_cell? _ _ po
      simp only at hp1
      go_loopw [5, 6] (fun si sc wr => ∃ (j : Nat) (c : Int), i ≤ j ∧ j ≤ n ∧ si = .int .i64 j ∧ sc = .int .i64 c ∧ Inn L i j c m.xs ∧ 0 ≤ c ∧ c ≤ 65535 ∧ Ext (wo.alloc (.cells #[.int .i64 m.c, .slice m.A m.xs.length m.k] 73)).drew wr) (fun si _ _ => n - (intOf si).toNat)
      case atStart => exact ⟨i, 0, Nat.le_refl _, by omega, rfl, rfl, inn_start _ _ _, by omega, by omega, Ext.refl _⟩
      case round =>
        obtain ⟨j, c, hij, hjn, rfl, rfl, hI, hc0, hc1, hext2⟩ := hrel
        have HI := hid hI
        clear hI
        have q1 : wr.cell? ⟨wo.heap.size, 1, none⟩ = some (.slice m.A m.xs.length m.k) := keep hext2 (by go_simp)
        have hq1 := World.block_lt_of_cell? _ _ q1
        simp only at hq1
        have hJ2 : RJ 3 wr m := (hJ.ext (by repeat (first | with_reducible assumption | with_reducible exact Ext.refl _ | with_reducible apply Ext.drewN | with_reducible apply Ext.drew | with_reducible apply Ext.alloc | with_reducible refine Ext.set ?_ (by first | (simp; done) | (simp; omega)) _ | with_reducible refine Ext.next ?_ (by with_reducible assumption)))).ext hext2
        have hwo : Ext w1 wr := (hext.next (by repeat (first | with_reducible assumption | with_reducible exact Ext.refl _ | with_reducible apply Ext.drewN | with_reducible apply Ext.drew | with_reducible apply Ext.alloc | with_reducible refine Ext.set ?_ (by first | (simp; done) | (simp; omega)) _ | with_reducible refine Ext.next ?_ (by with_reducible assumption)))).next hext2
        have ho2 := ho.ext hwo
        clear c0 c1
        go_upto_region 6 with fail
        go_cut [32] (fun v wx => ∃ b : Bool, v = .bool b ∧ (b = true → ∃ m2, L[j]? = some m2 ∧ m2.xs = m.xs) ∧ (b = false → i < j ∧ ∀ z, L[j]? = some z → aOrd m.xs z.xs ≠ 0) ∧ Ext wr wx)
        case first =>
          by_cases hjl : j < n
          · have hjL : j < L.length := by rw [HN.out]; exact hjl
            have hm2 : L[j]? = some L[j] := List.getElem?_eq_getElem hjL
            generalize L[j] = m2 at hm2
            obtain ⟨g', e', _, _, d0, d1, _, _⟩ := ho2.form hm2
            injection e' with e'
            injection e' with e' _ _
            subst e'
            have hJ3 := (ho2.2 m2 (List.mem_of_getElem? hm2))
            have hx3 := HX.out m2 (List.mem_of_getElem? hm2)
            have hg3 := World.block_lt_of_cell? _ _ d1
            simp only at hg3
            have HM2 := hid hm2
            clear hm2 ho2 hjL
            have hgd : decide ((j : Int) < (n : Int)) = true := decide_eq_true (by omega)
            have hgd' : decide (j < n) = true := decide_eq_true hjl
            by_cases hq : aOrd m.xs m2.xs = 0
            · have HQ := hid (aOrd_eq hq)
              have hqb : (aOrd m.xs m2.xs == 0) = true := by rw [beq_iff_eq]; exact hq
              go_wp2
              refine wp_region_over (by kernel_rfl) (by kernel_rfl) ?_
              repeat (go_big_quiet_step ((go_at_call 71; exact calls_over (atomsOrder _ _ _ _ m.xs m2.xs _ (hJ2.1.ext (Over.ext _)) (hJ3.1.ext (Over.ext _)) (by omega) (by omega)))))
              refine wpQuiet_nil ?_
              rintro _ ⟨⟨wq, hwq⟩, rfl⟩
              go_wp2
              go_meet
              exact ⟨true, rfl, (fun _ => ⟨m2, HM2.out, HQ.out.symm⟩), (fun h => by cases h), hwq⟩
            · have HQ := hid hq
              have hqb : (aOrd m.xs m2.xs == 0) = false := by rw [beq_eq_false_iff_ne]; exact hq
              have HJ : Hid (i < j) := hid (by
                rcases Nat.lt_or_eq_of_le hij with h | rfl
                · exact h
                · have := HM.out.symm.trans HM2.out
                  injection this with this
                  subst this
                  exact absurd (aOrd_self m.xs) hq)
              clear hq
              go_wp2
              refine wp_region_over (by kernel_rfl) (by kernel_rfl) ?_
              repeat (go_big_quiet_step ((go_at_call 71; exact calls_over (atomsOrder _ _ _ _ m.xs m2.xs _ (hJ2.1.ext (Over.ext _)) (hJ3.1.ext (Over.ext _)) (by omega) (by omega)))))
              refine wpQuiet_nil ?_
              rintro _ ⟨⟨wq, hwq⟩, rfl⟩
              go_wp2
              go_meet
              exact ⟨false, rfl, (fun h => by cases h), (fun _ => ⟨HJ.out, fun z hz => by rw [HM2.out] at hz; injection hz with hz; subst hz; exact HQ.out⟩), hwq⟩
          · have hgd : decide ((j : Int) < (n : Int)) = false := decide_eq_false (by omega)
            have hgd' : decide (j < n) = false := decide_eq_false hjl
            have HJ : Hid (L[j]? = none) := hid (List.getElem?_eq_none (by rw [HN.out]; omega))
            have hij' : i < j := by omega
            go_wp2
            refine wp_region_over (by kernel_rfl) (by kernel_rfl) ?_
            repeat (go_big_quiet_step (fail))
            refine wpQuiet_nil ?_
            rintro _ ⟨⟨wq, hwq⟩, rfl⟩
            go_wp2
            go_meet
            exact ⟨false, rfl, (fun h => by cases h), (fun _ => ⟨hij', fun z hz => by rw [HJ.out] at hz; cases hz⟩), hwq⟩
        case rest =>
          obtain ⟨b, rfl, hb1, hb2, hE⟩ := hcut
          have q2 := keep hE q1
          have hq2 := World.block_lt_of_cell? _ _ q2
          simp only at hq2
          cases b
          · obtain ⟨hij', hz⟩ := hb2 rfl
            have HG2 := hid (grp_step HS.out HG.out HM.out hij' HI.out hz)
            have hext3 : Ext wo wc := ((Ext.refl wo).alloc _).drew.next (hext2.next hE)
            have pc := keep hext3 po
            have pfc := keepf hext3 po pf
            have hpc := lt_ext hext3 hp1
            have hos3 := hos.ext hext3
            have hJ4 := (hJ2.ext hE).rk
            have HW := hid (hext.next hext3)
            clear hb1 hb2 hz q1 hq1 hJ2 hJ hos po pf hp1 ho2 hwo hext2 hE hext3
            by_cases hcp : 0 < c
            · go_wp2
              go_region_law (first | ((rw [if_pos (by simp [Region.wanted])]); go_simp; (go_at_call 102; (refine (cloneInts _ _ _ m.xs _ (hJ4.ext (by repeat (first | with_reducible assumption | with_reducible exact Ext.refl _ | with_reducible apply Ext.drewN | with_reducible apply Ext.drew | with_reducible apply Ext.alloc | with_reducible refine Ext.set ?_ (by first | (simp; done) | (simp; omega)) _ | with_reducible refine Ext.next ?_ (by with_reducible assumption)))) rfl (by omega)).mono ?_); (rintro e w3 ⟨A3, k3, rfl, ho3, hw3⟩); (have pc3 : w3.cell? ⟨w1.heap.size, 0, none⟩ = some (.slice B os.length kb) := keep hw3 (by go_simp)); (have hpc3 := World.block_lt_of_cell? _ _ pc3); simp only at hpc3; (have pfc3 : w3.frozen? ⟨w1.heap.size, 0, none⟩ = false := (hw3.frozen (by simp; omega)).trans (by go_simp)); (have hw3s := hw3.size); (try simp at hw3s))) | ((refine step_app_own (by decide) Try.underlying23 info_mono (by rfl) _ _ (by rfl) (w1.heap.size + 1) B kb os (hos3.ext (by repeat (first | with_reducible assumption | with_reducible exact Ext.refl _ | with_reducible apply Ext.drewN | with_reducible apply Ext.drew | with_reducible apply Ext.alloc | with_reducible refine Ext.set ?_ (by first | (simp; done) | (simp; omega)) _ | with_reducible refine Ext.next ?_ (by with_reducible assumption)))) os.length rfl (by rfl) ⟨c, A3, k3, m.xs⟩ ⟨w3.heap.size, 0, none⟩ 1 (by rfl) (by rw [addr_add]; go_simp) (by rw [addr_add]; go_simp) ((ho3.ext (by repeat (first | with_reducible assumption | with_reducible exact Ext.refl _ | with_reducible apply Ext.drewN | with_reducible apply Ext.drew | with_reducible apply Ext.alloc | with_reducible refine Ext.set ?_ (by first | (simp; done) | (simp; omega)) _ | with_reducible refine Ext.next ?_ (by with_reducible assumption)))).base (by simp; omega)) (fun a ha x h1 h2 => by have h3 := (own_atB (hos3.2.1 a ha) h1).2; have h4 := (own_atB ho3 h2).1; simp at h4; omega) (by omega) (by simp; omega) ?_); (intro B' kb' w4 ho4 hu4); (have pc4 : w4.cell? ⟨w1.heap.size, 0, none⟩ = some (.slice B os.length kb) := (hu4.cell (p := ⟨w1.heap.size, 0, none⟩) (by simp; omega) (fun hb => by have h4 := (own_atB hos3.1 hb).1; simp only at h4; omega)).trans (by go_simp)); (have pf4 : w4.frozen? ⟨w1.heap.size, 0, none⟩ = false := (hu4.frozen (p := ⟨w1.heap.size, 0, none⟩) (by simp; omega) (fun hb => by have h4 := (own_atB hos3.1 hb).1; simp only at h4; omega)).trans (by go_simp))))
              all_goals
                have HO := hid ((ho4.set (p := ⟨w1.heap.size, 0, none⟩) (by simp) (.slice B' (os.length + 1) kb')))
                have HU5 := hid ((((Upd.of_ext (HW.out.next (by repeat (first | with_reducible assumption | with_reducible exact Ext.refl _ | with_reducible apply Ext.drewN | with_reducible apply Ext.drew | with_reducible apply Ext.alloc | with_reducible refine Ext.set ?_ (by first | (simp; done) | (simp; omega)) _ | with_reducible refine Ext.next ?_ (by with_reducible assumption))))).next hu4).set (p := ⟨w1.heap.size, 0, none⟩) (.inr (Nat.le_refl _)) (.slice B' (os.length + 1) kb')).ext fun b hb => by have := (own_atB hos3.1 hb).1; omega)
                have hl4 := World.block_lt_of_cell? _ _ pc4
                simp only at hl4
                clear hu4 ho4 hw3 ho3
                go_wp2
                go_roundw
                case rel =>
                  have hcl : (w4.setCell ⟨w1.heap.size, 0, none⟩ (.slice B' (os.length + 1) kb')).cell? ⟨w1.heap.size, 0, none⟩ = some (.slice B' (os ++ [(⟨c, A3, k3, m.xs⟩ : Mn)]).length kb') := by rw [World.cell?_setCell_same _ _ _ pc4, List.length_append]; rfl
                  refine ⟨j, B', kb', os ++ [⟨c, A3, k3, m.xs⟩], hjn, rfl, hcl, by simp [pf4], HO.out, by simp; omega, ?_, HU5.out⟩
                  have := HG2.out
                  rw [if_pos hcp] at this
                  rw [List.map_append]
                  exact this
                case measure => simp [intOf]; omega
            · have HG3 : Hid (Grp L (os.map Mn.dat) j) := hid (by have := HG2.out; rwa [if_neg hcp] at this)
              clear HG2
              go_wp2
              go_roundw
              case rel => exact ⟨j, B, kb, os, hjn, rfl, pc, pfc, hos3, by omega, HG3.out, HW.out⟩
              case measure => simp [intOf]; omega
          · obtain ⟨m2, hm2, hk2⟩ := hb1 rfl
            have HI2 := hid (inn_step HI.out hm2 hk2)
            have hb := inn_len HI2.out
            have hjL := (List.getElem?_eq_some_iff.1 hm2).1
            have hjn' : j < n := by rw [HN.out] at hjL; exact hjL
            have hcm := HC.out m2 (List.mem_of_getElem? hm2)
            obtain ⟨g', e', _, _, d0, d1, _, _⟩ := (ho2.ext hE).form hm2
            injection e' with e'
            injection e' with e' _ _
            subst e'
            have hg3 := World.block_lt_of_cell? _ _ d0
            simp only at hg3
            have HE3 := hid (hext2.next hE)
            clear hm2 hk2 hb1 hb2 ho2 hjL
            go_wp2_with fail
            refine (implWrdWrap _ _).mono ?_
            rintro e w5 ⟨rfl, rfl⟩
            go_wp2
            go_roundw
            case rel => exact ⟨j + 1, _, by omega, by omega, by go_num, rfl, HI2.out, hb.1, hb.2, HE3.out⟩
            case measure => simp [intOf]; omega
    · obtain rfl : i = n := by omega
      have r1 := keep hext r0
      have rf1 := keepf hext r0 rf
      have hEq : Hid (os.map Mn.dat = norm (ms.map Mn.dat)) := hid (grp_end HG.out (by rw [HN.out]; exact Nat.le_refl _) HP.out)
      have hSz : SzM os := ⟨by omega, fun x hx => by
        have hd : x.dat ∈ norm (ms.map Mn.dat) := hEq.out ▸ List.mem_map_of_mem hx
        obtain ⟨y, hy, e⟩ := norm_mem hd
        obtain ⟨z, hz, rfl⟩ := List.mem_map.1 hy
        have h1 := HX.out z (HP.out.symm.subset hz)
        have h2 : x.xs = z.xs := e
        rw [h2]
        omega⟩
      have hF : polOk (os.map Mn.dat) = fitB (norm (ms.map Mn.dat)) := by
        rw [hEq.out]
        exact polOk_norm fun y hy => by
          obtain ⟨z, hz, rfl⟩ := List.mem_map.1 hy
          exact HA.out z hz
      have HF := hid hF
      have HW1 := hid (((Upd.of_ext (S := atB A) ((Ext.refl w).alloc _)).next HU.out).next (.of_ext hext))
      clear hF
      clear HG
      cases hb : fitB (norm (ms.map Mn.dat))
      · have HB := hid hb
        clear hb
        go_wp2_with fail
        refine (implPolOk _ _ os _ (hos.rm.ext (by repeat (first | with_reducible assumption | with_reducible exact Ext.refl _ | with_reducible apply Ext.drewN | with_reducible apply Ext.drew | with_reducible apply Ext.alloc | with_reducible refine Ext.set ?_ (by first | (simp; done) | (simp; omega)) _ | with_reducible refine Ext.next ?_ (by with_reducible assumption)))) hSz).mono ?_
        rintro e w5 ⟨rfl, hw5⟩
        rw [HF.out, HB.out]
        have r5 : w5.cell? ⟨w.heap.size, 0, none⟩ = some (.slice none 0 0) := keep hw5 r1
        have l5 := World.block_lt_of_cell? _ _ r5
        simp only at l5
        have rf5 : w5.frozen? ⟨w.heap.size, 0, none⟩ = false := keepf hw5 r1 rf1
        have HW5 := hid (HW1.out.next (.of_ext hw5))
        go_wp2
        refine bodyPost_ret (v := .tuple #[.agg #[.slice none 0 0], .bool false]) (by simp [results, Try.results60, go_sem, r5, rf5]) rfl ⟨none, 0, [], ?_, ?_, OM.nil _ _, HW5.out.set (p := ⟨w.heap.size, 0, none⟩) (.inr (Nat.le_refl _)) _⟩
        · rw [fitP_snd, HB.out]; rfl
        · unfold fitP; rw [HB.out]; rfl
      · have HB := hid hb
        clear hb
        go_wp2_with fail
        refine (implPolOk _ _ os _ (hos.rm.ext (by repeat (first | with_reducible assumption | with_reducible exact Ext.refl _ | with_reducible apply Ext.drewN | with_reducible apply Ext.drew | with_reducible apply Ext.alloc | with_reducible refine Ext.set ?_ (by first | (simp; done) | (simp; omega)) _ | with_reducible refine Ext.next ?_ (by with_reducible assumption)))) hSz).mono ?_
        rintro e w5 ⟨rfl, hw5⟩
        rw [HF.out, HB.out]
        have r5 : w5.cell? ⟨w.heap.size, 0, none⟩ = some (.slice none 0 0) := keep hw5 r1
        have l5 := World.block_lt_of_cell? _ _ r5
        simp only at l5
        have rf5 : w5.frozen? ⟨w.heap.size, 0, none⟩ = false := keepf hw5 r1 rf1
        have p5 := keep hw5 po
        have HW5 := hid (HW1.out.next (.of_ext hw5))
        have HO5 := hid (((hos.ext hw5).set (p := ⟨w.heap.size, 0, none⟩) (by simp only; omega) (.slice B os.length kb)).base (lo' := w.heap.size) (by omega))
        go_wp2
        refine bodyPost_ret (v := .tuple #[.agg #[.slice B os.length kb], .bool true]) (by simp [results, Try.results60, go_sem, r5, rf5, p5]) rfl ⟨B, kb, os, ?_, ?_, HO5.out, HW5.out.set (p := ⟨w.heap.size, 0, none⟩) (.inr (Nat.le_refl _)) _⟩
        · rw [fitP_snd, HB.out]
        · unfold fitP; rw [HB.out]; exact hEq.out
end Go.Proofs.Ytcgelcaepkakaaa
