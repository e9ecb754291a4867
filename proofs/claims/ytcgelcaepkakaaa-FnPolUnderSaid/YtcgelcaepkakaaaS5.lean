/- Contract of the library's merge in place, at parts of sums in the order of their atoms. Conditions: lengths that a machine can hold. -/
import Derived.Test.YtcgelcaepkakaaaS4
import Derived.Deep.DeepCutAuto
namespace Go.Proofs.Ytcgelcaepkakaaa
open Go Go.RowKit
set_option linter.unusedVariables false
set_option linter.unusedSimpArgs false

theorem half_bits (n : Nat) (h : n < 2199023255552) : IntKind.i64.wrap ((IntKind.u64.wrap (n : Int)) / 2) = ((n / 2 : Nat) : Int) := by
  rw [IntKind.wrap_u64, IntKind.wrap_i64]
  omega

/-- What merging asks and does. -/
def MrgS (n : Nat) : Prop := ∀ (A : Option Addr) (k lo : Nat) (ms : List Mn) (a m b : Nat) (ai mi bi : Int) (len : Nat) (w : World), LM 73 3 w lo A k ms → ms.length = len → ai = a → mi = m → bi = b → ms.length < 1099511627776 → a < m → m < b → b ≤ ms.length → b - a ≤ n → SzX ms → SrtF (key ms) a m → SrtF (key ms) m b →
    Calls Try.prog 144 #[.slice A len k, .int .i64 ai, .int .i64 mi, .int .i64 bi, .func (.func 101) #[] #[]] w (MvW 73 3 w lo A k ms (fun f g => SrtF g a b ∧ MvF f g a b))

set_option maxRecDepth 100000 in
set_option maxHeartbeats 1000000 in
theorem mergeUp (A : Option Addr) (k lo : Nat) (ms : List Mn) (a b : Nat) (w : World) (h : LM 73 3 w lo A k ms) (hn : ms.length < 1099511627776) (hab : a + 1 < b) (hb : b ≤ ms.length) (hs : SzX ms) (hsr : SrtF (key ms) (a + 1) b) :
    Calls Try.prog 144 #[.slice A ms.length k, .int .i64 a, .int .i64 ((a : Int) + 1), .int .i64 b, .func (.func 101) #[] #[]] w (MvW 73 3 w lo A k ms (fun f g => SrtF g a b ∧ MvF f g a b)) := by
  have HS := hid hsr
  clear hsr
  have hone : ((a : Int) + 1 - a == 1) = true := by rw [beq_iff_eq]; omega
  go_enter Try.func144, Try.ntmps144
  go_wp2
  go_loopw [10, 11, 12] (fun si sj sh wr => ∃ (i j : Nat), a + 1 ≤ i ∧ i ≤ j ∧ j ≤ b ∧ si = .int .i64 i ∧ sj = .int .i64 j ∧ (i = a + 1 ∨ aOrd (key ms (i - 1)) (key ms a) < 0) ∧ (j = b ∨ 0 ≤ aOrd (key ms j) (key ms a)) ∧ Ext w wr) (fun si sj _ _ => (intOf sj).toNat - (intOf si).toNat)
  case atStart => exact ⟨a + 1, b, by omega, by omega, by omega, by go_num, rfl, .inl rfl, .inl rfl, Ext.refl _⟩
  case round =>
    obtain ⟨i, j, hi, hij, hj, rfl, rfl, hlo, hhi, hext⟩ := hrel
    have HLO := hid hlo
    have HHI := hid hhi
    clear hlo hhi
    by_cases hlt : i < j
    · obtain ⟨q, hq⟩ : ∃ q : Nat, ((i : Int) + j) / 2 = q := ⟨(i + j) / 2, by omega⟩
      have hq1 : i ≤ q := by omega
      have hq2 : q < j := by omega
      have h2 := h.ext hext
      have hx : ms[q]? = some ms[q] := List.getElem?_eq_getElem (by omega)
      have hy : ms[a]? = some ms[a] := List.getElem?_eq_getElem (by omega)
      generalize ms[q] = x at hx
      generalize ms[a] = y at hy
      obtain ⟨g, rfl, hlo, hg, cx0, cx1, fx0, fx1⟩ := h2.form hx
      obtain ⟨g', e', _, _, cy0, cy1, fy0, fy1⟩ := h2.form hy
      injection e' with e'
      injection e' with e' _ _
      subst e'
      have hix := (h2.2 x (List.mem_of_getElem? hx)).1
      have hiy := (h2.2 y (List.mem_of_getElem? hy)).1
      have hsx := hs x (List.mem_of_getElem? hx)
      have hsy := hs y (List.mem_of_getElem? hy)
      have KX := hid (key_at hx)
      have KY := hid (key_at hy)
      clear hx hy h2 fx0 fx1 fy0 fy1
      by_cases hc : aOrd x.xs y.xs < 0
      · have HK : Hid (aOrd (key ms q) (key ms a) < 0) := hid (by rw [KX.out, KY.out]; exact hc)
        have hcd : decide (aOrd x.xs y.xs < 0) = true := decide_eq_true hc
        go_wp2
        refine wp_region_over (by kernel_rfl) (by kernel_rfl) ?_
        repeat (go_big_quiet_step ((go_at_call 101; exact calls_over (sumCmp _ _ _ _ _ _ _ _ x.xs y.xs _ (hix.ext (Over.ext _)) (hiy.ext (Over.ext _)) rfl rfl hsx hsy))))
        refine wpQuiet_nil ?_
        rintro _ ⟨⟨wq, hwq⟩, rfl⟩
        go_wp2
        go_roundw
        case rel => exact ⟨q + 1, j, by omega, by omega, by omega, by go_num, rfl, .inr (by rw [Nat.add_sub_cancel]; exact HK.out), HHI.out, hext.next hwq⟩
        case measure => simp [intOf]; omega
      · have HK : Hid (0 ≤ aOrd (key ms q) (key ms a)) := hid (by rw [KX.out, KY.out]; omega)
        have hcd : decide (aOrd x.xs y.xs < 0) = false := decide_eq_false hc
        go_wp2
        refine wp_region_over (by kernel_rfl) (by kernel_rfl) ?_
        repeat (go_big_quiet_step ((go_at_call 101; exact calls_over (sumCmp _ _ _ _ _ _ _ _ x.xs y.xs _ (hix.ext (Over.ext _)) (hiy.ext (Over.ext _)) rfl rfl hsx hsy))))
        refine wpQuiet_nil ?_
        rintro _ ⟨⟨wq, hwq⟩, rfl⟩
        go_wp2
        go_roundw
        case rel => exact ⟨i, q, by omega, by omega, by omega, rfl, by go_num, HLO.out, .inr HK.out, hext.next hwq⟩
        case measure => simp [intOf]; omega
    · obtain rfl : i = j := by omega
      have HE := hid hext
      have h2 := h.ext hext
      clear h hext
      obtain ⟨wo, rfl⟩ : ∃ wo : World, wo = wr := ⟨_, rfl⟩
      go_wp2
      go_loopw [13] (fun st wr => ∃ (t : Nat) (ys : List Mn), a ≤ t ∧ t + 1 ≤ i ∧ st = .int .i64 t ∧ LM 73 3 wr lo A k ys ∧ ys.Perm ms ∧ RotF (key ms) (key ys) a (a + 1) (t + 1) ∧ Upd (atB A) w wr) (fun st _ => i - (intOf st).toNat)
      case atStart => exact ⟨a, ms, Nat.le_refl _, by omega, rfl, h2, List.Perm.refl _, up_start _ _, .of_ext HE.out⟩
      case round =>
        obtain ⟨t, ys, ht1, ht2, rfl, ho, hp, hr, hup⟩ := hrel
        by_cases hti : t + 1 < i
        · have hl := hp.length_eq
          have hx : ys[t]? = some ys[t] := List.getElem?_eq_getElem (by omega)
          have hy : ys[t + 1]? = some ys[t + 1] := List.getElem?_eq_getElem (by omega)
          generalize ys[t] = x at hx
          generalize ys[t + 1] = y at hy
          obtain ⟨g, rfl, hlo, hg, cx0, cx1, fx0, fx1⟩ := ho.form hx
          obtain ⟨g', e', _, _, cy0, cy1, fy0, fy1⟩ := ho.form hy
          injection e' with e'
          injection e' with e' _ _
          subst e'
          have HS2 := hid (ho.swap (by decide) hx hy)
          have HR := hid (up_step ht1 hr (swp_key hx hy))
          have HP := hid ((swp_perm hx hy).trans hp)
          have HU := hid hup
          have hb1 : t + 1 < ms.length := by omega
          clear hx hy ho hr hp hl hup h2
          go_wp2
          go_region
          go_wp2
          go_roundw
          case rel => exact ⟨t + 1, swp ys t (t + 1) x y, by omega, by omega, by go_num, HS2.out.ext (Ext.refl _).drew, HP.out, HR.out, (HU.out.next (Upd.four rfl)).drew⟩
          case measure => simp [intOf]; omega
        · obtain rfl : i = t + 1 := by omega
          have HR := hid (merge_up HS.out ⟨by omega, by omega⟩ HLO.out HHI.out hr)
          have HM := hid ((hr.mv (by omega) (by omega)).mono (Nat.le_refl a) (show t + 1 ≤ b by omega))
          have HP := hid hp
          clear hr hp h2
          go_wp2
          go_end0
          exact ⟨rfl, ys, ho, HP.out, ⟨HR.out, HM.out⟩, hup⟩

set_option maxRecDepth 100000 in
set_option maxHeartbeats 1000000 in
theorem mergeDown (A : Option Addr) (k lo : Nat) (ms : List Mn) (a m : Nat) (w : World) (h : LM 73 3 w lo A k ms) (hn : ms.length < 1099511627776) (hab : a + 1 < m) (hb : m + 1 ≤ ms.length) (hs : SzX ms) (hsl : SrtF (key ms) a m) :
    Calls Try.prog 144 #[.slice A ms.length k, .int .i64 a, .int .i64 m, .int .i64 ((m : Int) + 1), .func (.func 101) #[] #[]] w (MvW 73 3 w lo A k ms (fun f g => SrtF g a (m + 1) ∧ MvF f g a (m + 1))) := by
  have HS := hid hsl
  clear hsl
  have hone : ((m : Int) + 1 - m == 1) = true := by rw [beq_iff_eq]; omega
  have hnot : ((m : Int) - a == 1) = false := by rw [beq_eq_false_iff_ne]; omega
  go_enter Try.func144, Try.ntmps144
  go_wp2
  go_loopw [14, 15, 16] (fun si sj sh wr => ∃ (i j : Nat), a ≤ i ∧ i ≤ j ∧ j ≤ m ∧ si = .int .i64 i ∧ sj = .int .i64 j ∧ (i = a ∨ 0 ≤ aOrd (key ms m) (key ms (i - 1))) ∧ (j = m ∨ aOrd (key ms m) (key ms j) < 0) ∧ Ext w wr) (fun si sj _ _ => (intOf sj).toNat - (intOf si).toNat)
  case atStart => exact ⟨a, m, by omega, by omega, by omega, rfl, rfl, .inl rfl, .inl rfl, Ext.refl _⟩
  case round =>
    obtain ⟨i, j, hi, hij, hj, rfl, rfl, hlo, hhi, hext⟩ := hrel
    have HLO := hid hlo
    have HHI := hid hhi
    clear hlo hhi
    by_cases hlt : i < j
    · obtain ⟨q, hq⟩ : ∃ q : Nat, ((i : Int) + j) / 2 = q := ⟨(i + j) / 2, by omega⟩
      have hq1 : i ≤ q := by omega
      have hq2 : q < j := by omega
      have h2 := h.ext hext
      have hx : ms[m]? = some ms[m] := List.getElem?_eq_getElem (by omega)
      have hy : ms[q]? = some ms[q] := List.getElem?_eq_getElem (by omega)
      generalize ms[m] = x at hx
      generalize ms[q] = y at hy
      obtain ⟨g, rfl, hlo, hg, cx0, cx1, fx0, fx1⟩ := h2.form hx
      obtain ⟨g', e', _, _, cy0, cy1, fy0, fy1⟩ := h2.form hy
      injection e' with e'
      injection e' with e' _ _
      subst e'
      have hix := (h2.2 x (List.mem_of_getElem? hx)).1
      have hiy := (h2.2 y (List.mem_of_getElem? hy)).1
      have hsx := hs x (List.mem_of_getElem? hx)
      have hsy := hs y (List.mem_of_getElem? hy)
      have KX := hid (key_at hx)
      have KY := hid (key_at hy)
      clear hx hy h2 fx0 fx1 fy0 fy1
      by_cases hc : aOrd x.xs y.xs < 0
      · have HK : Hid (aOrd (key ms m) (key ms q) < 0) := hid (by rw [KX.out, KY.out]; exact hc)
        have hcd : decide (aOrd x.xs y.xs < 0) = true := decide_eq_true hc
        go_wp2
        refine wp_region_over (by kernel_rfl) (by kernel_rfl) ?_
        repeat (go_big_quiet_step ((go_at_call 101; exact calls_over (sumCmp _ _ _ _ _ _ _ _ x.xs y.xs _ (hix.ext (Over.ext _)) (hiy.ext (Over.ext _)) rfl rfl hsx hsy))))
        refine wpQuiet_nil ?_
        rintro _ ⟨⟨wq, hwq⟩, rfl⟩
        go_wp2
        go_roundw
        case rel => exact ⟨i, q, by omega, by omega, by omega, rfl, by go_num, HLO.out, .inr HK.out, hext.next hwq⟩
        case measure => simp [intOf]; omega
      · have HK : Hid (0 ≤ aOrd (key ms m) (key ms q)) := hid (by rw [KX.out, KY.out]; omega)
        have hcd : decide (aOrd x.xs y.xs < 0) = false := decide_eq_false hc
        go_wp2
        refine wp_region_over (by kernel_rfl) (by kernel_rfl) ?_
        repeat (go_big_quiet_step ((go_at_call 101; exact calls_over (sumCmp _ _ _ _ _ _ _ _ x.xs y.xs _ (hix.ext (Over.ext _)) (hiy.ext (Over.ext _)) rfl rfl hsx hsy))))
        refine wpQuiet_nil ?_
        rintro _ ⟨⟨wq, hwq⟩, rfl⟩
        go_wp2
        go_roundw
        case rel => exact ⟨q + 1, j, by omega, by omega, by omega, by go_num, rfl, .inr (by rw [Nat.add_sub_cancel]; exact HK.out), HHI.out, hext.next hwq⟩
        case measure => simp [intOf]; omega
    · obtain rfl : i = j := by omega
      have HE := hid hext
      have h2 := h.ext hext
      clear h hext
      obtain ⟨wo, rfl⟩ : ∃ wo : World, wo = wr := ⟨_, rfl⟩
      go_wp2
      go_loopw [17] (fun st wr => ∃ (t : Nat) (ys : List Mn), i ≤ t ∧ t ≤ m ∧ st = .int .i64 t ∧ LM 73 3 wr lo A k ys ∧ ys.Perm ms ∧ RotF (key ms) (key ys) t m (m + 1) ∧ Upd (atB A) w wr) (fun st _ => (intOf st).toNat)
      case atStart => exact ⟨m, ms, by omega, by omega, rfl, h2, List.Perm.refl _, down_start _ _, .of_ext HE.out⟩
      case round =>
        obtain ⟨t, ys, ht1, ht2, rfl, ho, hp, hr, hup⟩ := hrel
        by_cases hti : i < t
        · obtain ⟨q, rfl⟩ : ∃ q, t = q + 1 := ⟨t - 1, by omega⟩
          have hl := hp.length_eq
          have hx : ys[q + 1]? = some ys[q + 1] := List.getElem?_eq_getElem (by omega)
          have hy : ys[q]? = some ys[q] := List.getElem?_eq_getElem (by omega)
          generalize ys[q + 1] = x at hx
          generalize ys[q] = y at hy
          obtain ⟨g, rfl, hlo, hg, cx0, cx1, fx0, fx1⟩ := ho.form hx
          obtain ⟨g', e', _, _, cy0, cy1, fy0, fy1⟩ := ho.form hy
          injection e' with e'
          injection e' with e' _ _
          subst e'
          have HS2 := hid (ho.swap (by decide) hx hy)
          have HR := hid (down_step ht2 hr (swp_key hx hy))
          have HP := hid ((swp_perm hx hy).trans hp)
          have HU := hid hup
          have hb1 : q + 1 < ms.length := by omega
          clear hx hy ho hr hp hl hup h2
          go_wp2
          go_region
          go_wp2
          go_roundw
          case rel => exact ⟨q, swp ys (q + 1) q x y, by omega, by omega, by go_num, HS2.out.ext (Ext.refl _).drew, HP.out, HR.out, (HU.out.next (Upd.four rfl)).drew⟩
          case measure => simp [intOf]
        · obtain rfl : t = i := by omega
          have HR := hid (merge_down HS.out ⟨by omega, by omega⟩ HLO.out HHI.out hr)
          have HM := hid ((hr.mv (by omega) (by omega)).mono hi (Nat.le_refl _))
          have HP := hid hp
          clear hr hp h2
          go_wp2
          go_end0
          exact ⟨rfl, ys, ho, HP.out, ⟨HR.out, HM.out⟩, hup⟩
end Go.Proofs.Ytcgelcaepkakaaa
