/- Contracts of the library's sort in place, at parts of sums. Conditions: lengths that a machine can hold. -/
import Derived.Test.YtcgelcaepkakaaaS2
import Derived.Test.YtcgelcaepkakaaaC
import Derived.RegionTactic
import Derived.BigRegion
namespace Go.Proofs.Ytcgelcaepkakaaa
open Go Go.RowKit
set_option linter.unusedVariables false
set_option linter.unusedSimpArgs false

/-- What comes of parts that are turned about. -/
def MvW (TM TI : TypeId) (w : World) (lo : Nat) (A : Option Addr) (k : Nat) (ms : List Mn) (R : (Nat → List Int) → (Nat → List Int) → Prop) (e : Ending) (w' : World) : Prop :=
  e = .returned (.tuple #[]) ∧ ∃ ms' : List Mn, LM TM TI w' lo A k ms' ∧ ms'.Perm ms ∧ R (key ms) (key ms') ∧ Upd (atB A) w w'

set_option maxHeartbeats 400000 in
theorem swapRange (A : Option Addr) (k lo : Nat) (ms : List Mn) (a b n : Nat) (f : Value) (w : World) (h : LM 73 3 w lo A k ms) (hn : ms.length < 1099511627776) (hab : a + n ≤ b) (hbn : b + n ≤ ms.length) :
    Calls Try.prog 154 #[.slice A ms.length k, .int .i64 a, .int .i64 b, .int .i64 n, f] w (MvW 73 3 w lo A k ms (fun f g => RngF f g a b n)) := by
  go_enter Try.func154, Try.ntmps154
  go_wp2
  go_loopw [10] (fun i wr => ∃ (j : Nat) (ys : List Mn), j ≤ n ∧ i = .int .i64 j ∧ ys.length = ms.length ∧ LM 73 3 wr lo A k ys ∧ ys.Perm ms ∧ RngF (key ms) (key ys) a b j ∧ Upd (atB A) w wr) (fun i _ => n - (intOf i).toNat)
  case atStart => exact ⟨0, ms, Nat.zero_le _, rfl, rfl, h, List.Perm.refl _, rng_start _ _ _, Upd.refl _ _⟩
  case round =>
    obtain ⟨j, ys, hj, rfl, hl, ho, hp, hr, hup⟩ := hrel
    by_cases hlt : j < n
    · have hx : ys[a + j]? = some ys[a + j] := List.getElem?_eq_getElem (by omega)
      have hy : ys[b + j]? = some ys[b + j] := List.getElem?_eq_getElem (by omega)
      generalize ys[a + j] = x at hx
      generalize ys[b + j] = y at hy
      obtain ⟨g, rfl, hlo, hg, cx0, cx1, fx0, fx1⟩ := ho.form hx
      obtain ⟨g', e', _, _, cy0, cy1, fy0, fy1⟩ := ho.form hy
      injection e' with e'
      injection e' with e' _ _
      subst e'
      have HS := hid (ho.swap (by decide) hx hy)
      have HS' := hid (ho.swap' (by decide) hx hy (by omega))
      have HR := hid (rng_step (by omega) hr (swp_key hx hy))
      have HP := hid ((swp_perm hx hy).trans hp)
      have HL := hid hl
      have HU := hid hup
      have HLn : Hid (ms.length = ys.length) := hid hl.symm
      have hb1 : a + j < ms.length := by omega
      have hb2 : b + j < ms.length := by omega
      have ea : IntKind.i64.wrap ((a : Int) + j) = ((a + j : Nat) : Int) := by rw [IntKind.wrap_i64]; omega
      have eb : IntKind.i64.wrap ((b : Int) + j) = ((b + j : Nat) : Int) := by rw [IntKind.wrap_i64]; omega
      clear hx hy ho hr hp hl hup h
      go_wp2
      go_region
      go_wp2
      go_roundw
      case rel => exact ⟨j + 1, swp ys (a + j) (b + j) x y, by omega, by go_num, (HP.out.length_eq), HS.out.ext (Ext.refl _).drew, HP.out, HR.out, (HU.out.next (Upd.four rfl)).drew⟩
      case measure => simp [intOf]; omega
    · obtain rfl : j = n := by omega
      have HR := hid hr
      have HP := hid hp
      clear hr hp hl h
      go_wp2
      go_end0
      exact ⟨rfl, ys, ho, HP.out, HR.out, hup⟩

theorem swapRange_ (A : Option Addr) (k lo : Nat) (ms : List Mn) (a b n : Nat) (ai bi ni : Int) (f : Value) (len : Nat) (w : World) (h : LM 73 3 w lo A k ms) (hl : ms.length = len) (ha : ai = a) (hb : bi = b) (hni : ni = n) (hn : ms.length < 1099511627776) (hab : a + n ≤ b) (hbn : b + n ≤ ms.length) :
    Calls Try.prog 154 #[.slice A len k, .int .i64 ai, .int .i64 bi, .int .i64 ni, f] w (MvW 73 3 w lo A k ms (fun f g => RngF f g a b n)) := by
  subst hl ha hb hni
  exact swapRange _ _ _ _ _ _ _ _ _ h hn hab hbn

set_option maxHeartbeats 400000 in
theorem rotate (A : Option Addr) (k lo : Nat) (ms : List Mn) (a m b : Nat) (f : Value) (w : World) (h : LM 73 3 w lo A k ms) (hn : ms.length < 1099511627776) (ham : a < m) (hmb : m < b) (hb : b ≤ ms.length) :
    Calls Try.prog 150 #[.slice A ms.length k, .int .i64 a, .int .i64 m, .int .i64 b, f] w (MvW 73 3 w lo A k ms (fun f g => RotF f g a m b)) := by
  go_enter Try.func150, Try.ntmps150
  go_wp2
  go_loopw [10, 11] (fun si sj wr => ∃ (i j : Nat) (ys : List Mn), 1 ≤ i ∧ i ≤ m - a ∧ 1 ≤ j ∧ j ≤ b - m ∧ si = .int .i64 i ∧ sj = .int .i64 j ∧ ys.length = ms.length ∧ LM 73 3 wr lo A k ys ∧ ys.Perm ms ∧ RotI (key ms) (key ys) a m b i j ∧ Upd (atB A) w wr) (fun si sj _ => (intOf si).toNat + (intOf sj).toNat)
  case atStart => exact ⟨m - a, b - m, ms, by omega, by omega, by omega, by omega, by go_num, by go_num, rfl, h, List.Perm.refl _, rot_start _ (by omega) (by omega), Upd.refl _ _⟩
  case round =>
    obtain ⟨i, j, ys, hi1, hi2, hj1, hj2, rfl, rfl, hl, ho, hp, hr, hup⟩ := hrel
    have HR := hid hr
    have HP := hid hp
    have HL := hid hl
    have HU := hid hup
    have hyl : ys.length ≤ ms.length := by omega
    have hyl' : ms.length ≤ ys.length := by omega
    clear hr hp hl hup h
    rcases Nat.lt_trichotomy i j with hij | rfl | hij
    · have hne : ((i : Int) != j) = true := by rw [bne_iff_ne]; omega
      go_wp2_with fail
      refine (swapRange_ _ _ lo ys (m - i) (m + j - i) i _ _ _ _ _ _ ho HL.out (by omega) (by omega) rfl (by omega) (by omega) (by omega)).mono ?_
      rintro e w2 ⟨rfl, zs, ho2, hp2, hr2, hu2⟩
      have HR2 := hid (rot_right HR.out (by omega) hij hr2)
      have HP2 := hid (hp2.trans HP.out)
      have HU2 := hid (HU.out.next hu2)
      clear hp2 hr2 hu2 ho
      go_wp2
      go_roundw
      case rel => exact ⟨i, j - i, zs, hi1, hi2, by omega, by omega, by go_num, by go_num, HP2.out.length_eq, ho2, HP2.out, HR2.out, HU2.out⟩
      case measure => simp [intOf]; omega
    · go_wp2_with fail
      refine (swapRange_ _ _ lo ys (m - i) m i _ _ _ _ _ _ ho HL.out (by omega) rfl rfl (by omega) (by omega) (by omega)).mono ?_
      rintro e w2 ⟨rfl, zs, ho2, hp2, hr2, hu2⟩
      have HR2 := hid (rot_done HR.out (by omega) hr2)
      have HP2 := hid (hp2.trans HP.out)
      have HU2 := hid (HU.out.next hu2)
      clear hp2 hr2 hu2 ho
      go_wp2
      go_end0
      exact ⟨rfl, zs, ho2, HP2.out, HR2.out, HU2.out⟩
    · have hne : ((i : Int) != j) = true := by rw [bne_iff_ne]; omega
      go_wp2_with fail
      refine (swapRange_ _ _ lo ys (m - i) m j _ _ _ _ _ _ ho HL.out (by omega) rfl rfl (by omega) (by omega) (by omega)).mono ?_
      rintro e w2 ⟨rfl, zs, ho2, hp2, hr2, hu2⟩
      have HR2 := hid (rot_left HR.out (by omega) hij hr2)
      have HP2 := hid (hp2.trans HP.out)
      have HU2 := hid (HU.out.next hu2)
      clear hp2 hr2 hu2 ho
      go_wp2
      go_roundw
      case rel => exact ⟨i - j, j, zs, by omega, by omega, hj1, hj2, by go_num, by go_num, HP2.out.length_eq, ho2, HP2.out, HR2.out, HU2.out⟩
      case measure => simp [intOf]; omega

theorem rotate_ (A : Option Addr) (k lo : Nat) (ms : List Mn) (a m b : Nat) (ai mi bi : Int) (f : Value) (len : Nat) (w : World) (h : LM 73 3 w lo A k ms) (hl : ms.length = len) (ha : ai = a) (hm : mi = m) (hbi : bi = b) (hn : ms.length < 1099511627776) (ham : a < m) (hmb : m < b) (hb : b ≤ ms.length) :
    Calls Try.prog 150 #[.slice A len k, .int .i64 ai, .int .i64 mi, .int .i64 bi, f] w (MvW 73 3 w lo A k ms (fun f g => RotF f g a m b)) := by
  subst hl ha hm hbi
  exact rotate _ _ _ _ _ _ _ _ _ h hn ham hmb hb
end Go.Proofs.Ytcgelcaepkakaaa
