/- Contract of the library's merge in place, whole. Conditions: lengths that a machine can hold. -/
import Derived.Test.YtcgelcaepkakaaaS5
namespace Go.Proofs.Ytcgelcaepkakaaa
open Go Go.RowKit
set_option linter.unusedVariables false
set_option linter.unusedSimpArgs false

set_option maxRecDepth 100000 in
set_option maxHeartbeats 4000000 in
theorem mergeMid (n : Nat) (ih : MrgS n) (A : Option Addr) (k lo0 : Nat) (ms : List Mn) (a m b : Nat) (w : World) (h : LM 73 3 w lo0 A k ms) (hn : ms.length < 1099511627776) (ham : a + 1 < m) (hmb : m + 1 < b) (hb : b ≤ ms.length) (hab : b - a ≤ n + 1) (hs : SzX ms) (hsl : SrtF (key ms) a m) (hsr : SrtF (key ms) m b) :
    Calls Try.prog 144 #[.slice A ms.length k, .int .i64 a, .int .i64 m, .int .i64 b, .func (.func 101) #[] #[]] w (MvW 73 3 w lo0 A k ms (fun f g => SrtF g a b ∧ MvF f g a b)) := by
  have HL := hid hsl
  have HR := hid hsr
  have IH := hid ih
  clear hsl hsr ih
  obtain ⟨mid, hmid⟩ : ∃ q : Nat, ((a : Int) + b) / 2 = q := ⟨(a + b) / 2, by omega⟩
  have hm1 : a + b - 1 ≤ 2 * mid := by omega
  have hm2 : 2 * mid ≤ a + b := by omega
  have hno1 : ((m : Int) - a == 1) = false := by rw [beq_eq_false_iff_ne]; omega
  have hno2 : ((b : Int) - m == 1) = false := by rw [beq_eq_false_iff_ne]; omega
  go_enter Try.func144, Try.ntmps144
  go_upto_if 140 with fail
  go_cut [20, 21] (fun x y wx => ∃ lo hi : Nat, x = .int .i64 lo ∧ y = .int .i64 hi ∧ Lims a m b mid lo hi ∧ w = wx)
  case first =>
    by_cases hmm : mid < m
    · go_wp2_with fail
      go_meet
      exact ⟨mid + m - b, mid, by go_num, rfl, .inl ⟨hmm, by omega, rfl⟩, rfl⟩
    · go_wp2_with fail
      go_meet
      exact ⟨a, m, rfl, rfl, .inr ⟨by omega, rfl, rfl⟩, rfl⟩
  case rest =>
    obtain ⟨lo, hi, rfl, rfl, hlims, rfl⟩ := hcut
    obtain ⟨b1, b2, b3, b4, b5, b6, b7⟩ := hlims.bounds hm1 hm2 (by omega) (by omega)
    have HLIM := hid hlims
    clear hlims
    obtain ⟨p, hp⟩ : ∃ p : Nat, ((mid : Int) + m - 1) = p := ⟨mid + m - 1, by omega⟩
    have hp' : p + 1 ≤ mid + m := by omega
    have hp'' : mid + m ≤ p + 1 := by omega
    go_wp2
    go_loopw [20, 21, 23] (fun si sj sh wr => ∃ (s r : Nat), lo ≤ s ∧ s ≤ r ∧ r ≤ hi ∧ si = .int .i64 s ∧ sj = .int .i64 r ∧ (s = lo ∨ 0 ≤ aOrd (key ms (mid + m - s)) (key ms (s - 1))) ∧ (r = hi ∨ aOrd (key ms (mid + m - 1 - r)) (key ms r) < 0) ∧ Ext w wr) (fun si sj _ _ => (intOf sj).toNat - (intOf si).toNat)
    case atStart => exact ⟨lo, hi, by omega, by omega, by omega, rfl, rfl, .inl rfl, .inl rfl, Ext.refl _⟩
    case round =>
      obtain ⟨s, r, hs1, hs2, hs3, rfl, rfl, hlo, hhi, hext⟩ := hrel
      have HLO := hid hlo
      have HHI := hid hhi
      clear hlo hhi
      by_cases hlt : s < r
      · obtain ⟨q, hq⟩ : ∃ q : Nat, ((s : Int) + r) / 2 = q := ⟨(s + r) / 2, by omega⟩
        have hq1 : s ≤ q := by omega
        have hq2 : q < r := by omega
        obtain ⟨u, hu⟩ : ∃ u : Nat, ((p : Int) - q) = u := ⟨p - q, by omega⟩
        have hu1 : u + q = p := by omega
        have hub : u < ms.length := by omega
        have h2 := h.ext hext
        have hx : ms[u]? = some ms[u] := List.getElem?_eq_getElem (by omega)
        have hy : ms[q]? = some ms[q] := List.getElem?_eq_getElem (by omega)
        generalize ms[u] = x at hx
        generalize ms[q] = y at hy
        obtain ⟨g, rfl, hlo, hg, cx0, cx1, fx0, fx1⟩ := h2.form hx
        obtain ⟨g', e', _, _, cy0, cy1, fy0, fy1⟩ := h2.form hy
        injection e' with e'
        injection e' with e' _ _
        subst e'
        have hix := (h2.2 x (List.mem_of_getElem? hx)).1
        have hiy := (h2.2 y (List.mem_of_getElem? hy)).1
        have hsx := hs x (List.mem_of_getElem? hx)
        have hsy := hs y (List.mem_of_getElem? hy)
        have KX := hid (key_at hx)
        have KY := hid (key_at hy)
        have hup : u = mid + m - 1 - q := by omega
        have HUP := hid hup
        clear hx hy h2 fx0 fx1 fy0 fy1 hup hu1 hmid
        by_cases hc : aOrd x.xs y.xs < 0
        · have HK : Hid (aOrd (key ms u) (key ms q) < 0) := hid (by rw [KX.out, KY.out]; exact hc)
          have hcd : decide (aOrd x.xs y.xs < 0) = true := decide_eq_true hc
          go_wp2
          refine wp_region_over (by kernel_rfl) (by kernel_rfl) ?_
          repeat (go_big_quiet_step ((go_at_call 101; exact calls_over (sumCmp _ _ _ _ _ _ _ _ x.xs y.xs _ (hix.ext (Over.ext _)) (hiy.ext (Over.ext _)) rfl rfl hsx hsy))))
          refine wpQuiet_nil ?_
          rintro _ ⟨⟨wq, hwq⟩, rfl⟩
          go_wp2
          go_roundw
          case rel => exact ⟨s, q, by omega, by omega, by omega, rfl, by go_num, HLO.out, .inr (by rw [← HUP.out]; exact HK.out), hext.next hwq⟩
          case measure => simp [intOf]; omega
        · have HK : Hid (0 ≤ aOrd (key ms u) (key ms q)) := hid (by rw [KX.out, KY.out]; omega)
          have hcd : decide (aOrd x.xs y.xs < 0) = false := decide_eq_false hc
          go_wp2
          refine wp_region_over (by kernel_rfl) (by kernel_rfl) ?_
          repeat (go_big_quiet_step ((go_at_call 101; exact calls_over (sumCmp _ _ _ _ _ _ _ _ x.xs y.xs _ (hix.ext (Over.ext _)) (hiy.ext (Over.ext _)) rfl rfl hsx hsy))))
          refine wpQuiet_nil ?_
          rintro _ ⟨⟨wq, hwq⟩, rfl⟩
          go_wp2
          go_roundw
          case rel => exact ⟨q + 1, r, by omega, by omega, by omega, by go_num, rfl, .inr (by rw [Nat.add_sub_cancel, show mid + m - (q + 1) = mid + m - 1 - q by omega, ← HUP.out]; exact HK.out), HHI.out, hext.next hwq⟩
          case measure => simp [intOf]; omega
      · obtain rfl : s = r := by omega
        have hcut := HLIM.out.cut (f := key ms) hm1 hm2 (by omega) (by omega) hs1 hs3 HLO.out HHI.out
        obtain ⟨e, he⟩ : ∃ e : Nat, ((mid : Int) + m - s) = e := ⟨mid + m - s, by omega⟩
        have he' : mid + m - s = e := by omega
        rw [he'] at hcut
        have HC := hid hcut
        have hbs := hcut.bs
        obtain ⟨d1, d2, d3, d4, d5, d6⟩ := hbs
        have HE := hid hext
        have h2 := h.ext hext
        clear h hext hcut he' hmid hp hp' hp''
        go_upto_region 39 with fail
        go_cut [185] (fun v wx => v = .bool (decide (s < m ∧ m < e)) ∧ wr = wx)
        case first => as_aux_lemma =>
          by_cases c1 : s < m
          · by_cases c2 : m < e
            · go_wp2_with fail
              go_meet
              exact ⟨by simp [c1, c2], rfl⟩
            · go_wp2_with fail
              go_meet
              exact ⟨by simp [c1, c2], rfl⟩
          · go_wp2_with fail
            go_meet
            exact ⟨by simp [c1], rfl⟩
        case rest =>
          obtain ⟨rfl, rfl⟩ := hcut
          go_upto_if 185 with fail
          go_cut [] (fun wx => ∃ ys : List Mn, LM 73 3 wx lo0 A k ys ∧ ys.Perm ms ∧ RotF (key ms) (key ys) s m e ∧ Upd (atB A) w wx)
          case first => as_aux_lemma =>
            by_cases c : s < m ∧ m < e
            · have hbt : decide (s < m ∧ m < e) = true := decide_eq_true c
              obtain ⟨c1, c2⟩ := c
              go_wp2_with fail
              refine (rotate_ _ _ lo0 ms s m e _ _ _ _ _ _ h2 rfl rfl rfl rfl hn c1 c2 (by omega)).mono ?_
              rintro e' w2 ⟨rfl, ys, ho2, hp2, hr2, hu2⟩
              have HO2 := hid ho2
              have HP2 := hid hp2
              have HR2 := hid hr2
              have HU2 := hid ((Upd.of_ext (S := atB A) HE.out).next hu2)
              clear ho2 hp2 hr2 hu2 h2
              go_wp2
              go_meet
              exact ⟨ys, HO2.out, HP2.out, HR2.out, HU2.out⟩
            · have hbt : decide (s < m ∧ m < e) = false := decide_eq_false c
              have HR2 := hid (rot_id (f := key ms) (s := s) (m := m) (e := e) (by omega) (by omega) (by omega))
              have HO2 := hid h2
              clear h2
              go_wp2
              go_meet
              exact ⟨ms, HO2.out, List.Perm.refl _, HR2.out, Upd.of_ext HE.out⟩
          case rest =>
            obtain ⟨ys, ho2, hp2, hr2, hu2⟩ := hcut
            clear h2
            have HY := hid ho2
            have HYP := hid hp2
            have HYL : Hid (ys.length = ms.length) := hid HYP.out.length_eq
            have HYN : Hid (ys.length < 1099511627776) := hid (by rw [HYL.out]; exact hn)
            have HYB : Hid (mid ≤ ys.length) := hid (by rw [HYL.out]; omega)
            have HYX : Hid (SzX ys) := hid fun x hx => hs x (HYP.out.subset hx)
            have HROT := hid hr2
            have HYU := hid hu2
            clear ho2 hp2 hr2 hu2
            obtain ⟨wk, hwk⟩ : ∃ x : World, x = wc := ⟨_, rfl⟩
            subst hwk
            go_upto_region 41 with fail
            go_cut [199] (fun v wx => v = .bool (decide (a < s ∧ s < mid)) ∧ wk = wx)
            case first => as_aux_lemma =>
              by_cases c1 : a < s
              · by_cases c2 : s < mid
                · go_wp2_with fail
                  go_meet
                  exact ⟨by simp [c1, c2], rfl⟩
                · go_wp2_with fail
                  go_meet
                  exact ⟨by simp [c1, c2], rfl⟩
              · go_wp2_with fail
                go_meet
                exact ⟨by simp [c1], rfl⟩
            case rest =>
              obtain ⟨rfl, rfl⟩ := hcut
              go_upto_if 199 with fail
              go_cut [] (fun wx => ∃ zs : List Mn, LM 73 3 wx lo0 A k zs ∧ zs.Perm ms ∧ SrtF (key zs) a mid ∧ MvF (key ys) (key zs) a mid ∧ Upd (atB A) w wx)
              case first => as_aux_lemma =>
                by_cases c : a < s ∧ s < mid
                · have hbt : decide (a < s ∧ s < mid) = true := decide_eq_true c
                  obtain ⟨c1, c2⟩ := c
                  have P1 := hid (cut_s1 HC.out HL.out HR.out HROT.out)
                  have P2 := hid (cut_s2 HC.out HL.out HR.out HROT.out)
                  go_wp2_with fail
                  refine (IH.out _ _ lo0 ys a s mid _ _ _ _ _ HY.out HYL.out rfl rfl rfl HYN.out c1 c2 HYB.out (by omega) HYX.out P1.out P2.out).mono ?_
                  rintro e' w3 ⟨rfl, zs, ho3, hp3, ⟨hs3, hm3⟩, hu3⟩
                  have HO3 := hid ho3
                  have HP3 := hid (hp3.trans HYP.out)
                  have HS3 := hid hs3
                  have HM3 := hid hm3
                  have HU3 := hid (HYU.out.next hu3)
                  clear ho3 hp3 hs3 hm3 hu3
                  go_wp2
                  go_meet
                  exact ⟨zs, HO3.out, HP3.out, HS3.out, HM3.out, HU3.out⟩
                · have hbt : decide (a < s ∧ s < mid) = false := decide_eq_false c
                  have HS3 : Hid (SrtF (key ys) a mid) := hid (by
                    rcases (show a = s ∨ s = mid by omega) with h1 | h1
                    · have := cut_s2 HC.out HL.out HR.out HROT.out
                      rw [← h1] at this
                      exact this
                    · have := cut_s1 HC.out HL.out HR.out HROT.out
                      rw [h1] at this
                      exact this)
                  go_wp2
                  go_meet
                  exact ⟨ys, HY.out, HYP.out, HS3.out, MvF.refl _ _ _, HYU.out⟩
              case rest =>
                obtain ⟨zs, ho3, hp3, hs3, hm3, hu3⟩ := hcut
                have HZ := hid ho3
                have HZP := hid hp3
                have HZL : Hid (zs.length = ms.length) := hid HZP.out.length_eq
                have HZN : Hid (zs.length < 1099511627776) := hid (by rw [HZL.out]; exact hn)
                have HZB : Hid (b ≤ zs.length) := hid (by rw [HZL.out]; exact hb)
                have HZX : Hid (SzX zs) := hid fun x hx => hs x (HZP.out.subset hx)
                have HM3 := hid hm3
                have HS3 := hid hs3
                have HZU := hid hu3
                clear ho3 hp3 hs3 hm3 hu3
                obtain ⟨wj, hwj⟩ : ∃ x : World, x = wc := ⟨_, rfl⟩
                subst hwj
                go_upto_region 43 with fail
                go_cut [213] (fun v wx => v = .bool (decide (mid < e ∧ e < b)) ∧ wj = wx)
                case first => as_aux_lemma =>
                  by_cases c1 : mid < e
                  · by_cases c2 : e < b
                    · go_wp2_with fail
                      go_meet
                      exact ⟨by simp [c1, c2], rfl⟩
                    · go_wp2_with fail
                      go_meet
                      exact ⟨by simp [c1, c2], rfl⟩
                  · go_wp2_with fail
                    go_meet
                    exact ⟨by simp [c1], rfl⟩
                case rest =>
                  obtain ⟨rfl, rfl⟩ := hcut
                  as_aux_lemma =>
                    by_cases c : mid < e ∧ e < b
                    · have hbt : decide (mid < e ∧ e < b) = true := decide_eq_true c
                      obtain ⟨c1, c2⟩ := c
                      have P1 := hid ((cut_s3 HC.out HL.out HR.out HROT.out).congr fun t t1 t2 => HM3.out.out t (.inr t1))
                      have P2 := hid ((cut_s4 HC.out HL.out HR.out HROT.out).congr fun t t1 t2 => HM3.out.out t (.inr (by omega)))
                      go_wp2_with fail
                      refine (IH.out _ _ lo0 zs mid e b _ _ _ _ _ HZ.out HZL.out rfl rfl rfl HZN.out c1 c2 HZB.out (by omega) HZX.out P1.out P2.out).mono ?_
                      rintro e' w4 ⟨rfl, vs, ho4, hp4, ⟨hs4, hm4⟩, hu4⟩
                      have HO4 := hid ho4
                      have HP4 := hid (hp4.trans HZP.out)
                      have HD4 := hid (cut_done HC.out HL.out HR.out HROT.out HM3.out HS3.out hm4 hs4)
                      have HU4 := hid (HZU.out.next hu4)
                      clear ho4 hp4 hs4 hm4 hu4
                      go_wp2
                      go_end0
                      exact ⟨rfl, vs, HO4.out, HP4.out, HD4.out, HU4.out⟩
                    · have hbt : decide (mid < e ∧ e < b) = false := decide_eq_false c
                      have HS4 : Hid (SrtF (key zs) mid b) := hid (by
                        rcases (show mid = e ∨ e = b by omega) with h1 | h1
                        · have := cut_s4 HC.out HL.out HR.out HROT.out
                          rw [← h1] at this
                          exact this.congr fun t t1 t2 => HM3.out.out t (.inr t1)
                        · have := cut_s3 HC.out HL.out HR.out HROT.out
                          rw [h1] at this
                          exact this.congr fun t t1 t2 => HM3.out.out t (.inr t1))
                      go_wp2
                      go_end0
                      exact ⟨rfl, zs, HZ.out, HZP.out, cut_done HC.out HL.out HR.out HROT.out HM3.out HS3.out (MvF.refl _ _ _) HS4.out, HZU.out⟩
end Go.Proofs.Ytcgelcaepkakaaa
