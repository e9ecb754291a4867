/- Contracts of the library's stable sort in place, at parts of sums in the order of their atoms. Conditions: lengths that a machine can hold. -/
import Derived.Test.YtcgelcaepkakaaaS6
namespace Go.Proofs.Ytcgelcaepkakaaa
open Go Go.RowKit
set_option linter.unusedVariables false
set_option linter.unusedSimpArgs false

theorem merge_all : ∀ n : Nat, MrgS n
  | 0 => fun A k lo ms a m b ai mi bi len w h hl ha hm hb hn ham hmb hb' hab hs hsl hsr => by omega
  | n + 1 => fun A k lo ms a m b ai mi bi len w h hl ha hm hb hn ham hmb hb' hab hs hsl hsr => by
    subst hl ha hm hb
    by_cases h1 : m = a + 1
    · subst h1
      have := mergeUp A k lo ms a b w h hn hmb hb' hs hsr
      rwa [show (((a + 1 : Nat)) : Int) = (a : Int) + 1 by omega]
    · by_cases h2 : b = m + 1
      · subst h2
        have := mergeDown A k lo ms a m w h hn (by omega) hb' hs hsl
        rwa [show (((m + 1 : Nat)) : Int) = (m : Int) + 1 by omega]
      · exact mergeMid n (merge_all n) A k lo ms a m b w h hn (by omega) (by omega) hb' hab hs hsl hsr

theorem merge_ (A : Option Addr) (k lo : Nat) (ms : List Mn) (a m b : Nat) (ai mi bi : Int) (len : Nat) (w : World) (h : LM 73 3 w lo A k ms) (hl : ms.length = len) (ha : ai = a) (hm : mi = m) (hbi : bi = b) (hn : ms.length < 1099511627776) (ham : a < m) (hmb : m < b) (hb : b ≤ ms.length) (hs : SzX ms) (hsl : SrtF (key ms) a m) (hsr : SrtF (key ms) m b) :
    Calls Try.prog 144 #[.slice A len k, .int .i64 ai, .int .i64 mi, .int .i64 bi, .func (.func 101) #[] #[]] w (MvW 73 3 w lo A k ms (fun f g => SrtF g a b ∧ MvF f g a b)) :=
  merge_all (b - a) A k lo ms a m b ai mi bi len w h hl ha hm hbi hn ham hmb hb (Nat.le_refl _) hs hsl hsr

theorem blk_l {f : Nat → List Int} {B n a : Nat} (h : BlkF f B n a n) (hd : 2 * B ∣ a) (hB : 0 < B) (hb : a + B < n) : SrtF f a (a + B) := by
  have := h a (Nat.dvd_trans ⟨2, by omega⟩ hd) (Nat.le_refl _) (by omega) (by omega)
  rwa [show min (a + B) n = a + B by omega] at this
theorem blk_r {f : Nat → List Int} {B n a b : Nat} (h : BlkF f B n a n) (hd : 2 * B ∣ a) (hB : 0 < B) (hb : a + B < n) (hm : min (a + 2 * B) n = b) : SrtF f (a + B) b := by
  have hd' : B ∣ a + B := (Nat.dvd_add (Nat.dvd_trans ⟨2, by omega⟩ hd) (Nat.dvd_refl B))
  have := h (a + B) hd' (by omega) (by omega) (by omega)
  rwa [show min (a + B + B) n = b by omega] at this
theorem blk_last {f : Nat → List Int} {B n a : Nat} (h : BlkF f B n a n) (hd : 2 * B ∣ a) (hB : 0 < B) (hb : n ≤ a + B) : SrtF f a n := by
  by_cases hn : a < n
  · have := h a (Nat.dvd_trans ⟨2, by omega⟩ hd) (Nat.le_refl _) (by omega) hn
    rwa [show min (a + B) n = n by omega] at this
  · exact fun i j h1 h2 h3 => by omega
theorem blk_zero {f : Nat → List Int} {B n : Nat} : BlkF f B n 0 0 := fun s _ _ h _ => by omega

set_option maxRecDepth 100000 in
set_option maxHeartbeats 1000000 in
theorem stable (A : Option Addr) (k lo : Nat) (ms : List Mn) (w : World) (h : LM 73 3 w lo A k ms) (hn : ms.length < 1099511627776) (hs : SzX ms) :
    Calls Try.prog 132 #[.slice A ms.length k, .int .i64 ms.length, .func (.func 101) #[] #[]] w (MvW 73 3 w lo A k ms (fun f g => SrtF g 0 ms.length)) := by
  go_enter Try.func132, Try.ntmps132
  go_wp2
  go_loopw [7, 8] (fun sa sb wr => ∃ (a : Nat) (ys : List Mn), 20 ∣ a ∧ a ≤ ms.length ∧ sa = .int .i64 a ∧ sb = .int .i64 (a + 20 : Nat) ∧ LM 73 3 wr lo A k ys ∧ ys.Perm ms ∧ BlkF (key ys) 20 ms.length 0 a ∧ Upd (atB A) w wr) (fun sa _ _ => ms.length - (intOf sa).toNat)
  case atStart => exact ⟨0, ms, Nat.dvd_zero _, Nat.zero_le _, rfl, rfl, h, List.Perm.refl _, blk_zero, Upd.refl _ _⟩
  case round =>
    obtain ⟨a, ys, hd, ha, rfl, rfl, ho, hp, hb, hup⟩ := hrel
    have HD := hid hd
    have HP := hid hp
    have HB := hid hb
    have HU := hid hup
    have HL : Hid (ys.length = ms.length) := hid hp.length_eq
    have HN : Hid (ys.length < 1099511627776) := hid (by rw [HL.out]; exact hn)
    have HX : Hid (SzX ys) := hid fun x hx => hs x (hp.subset hx)
    clear hd hp hb hup h
    by_cases hlt : a + 20 ≤ ms.length
    · have HBL : Hid (a + 20 ≤ ys.length) := hid (by rw [HL.out]; exact hlt)
      go_wp2_with fail
      refine (insertion_ _ _ lo ys a (a + 20) _ _ _ _ ho HL.out rfl rfl HN.out HBL.out (by omega) HX.out).mono ?_
      rintro e w2 ⟨rfl, zs, ho2, hp2, ⟨hs2, hm2⟩, hu2⟩
      have HO2 := hid ho2
      have HP2 := hid (hp2.trans HP.out)
      have HB2 := hid (blk_step HD.out HB.out hm2 (show min (a + 20) ms.length = a + 20 by omega) hs2)
      have HU2 := hid (HU.out.next hu2)
      have HD2 := hid (Nat.dvd_add HD.out (Nat.dvd_refl 20))
      clear ho2 hp2 hs2 hm2 hu2 ho
      go_wp2
      go_roundw
      case rel => exact ⟨a + 20, zs, HD2.out, hlt, rfl, by go_num, HO2.out, HP2.out, HB2.out, HU2.out⟩
      case measure => simp [intOf]; omega
    · have HBL : Hid (ms.length ≤ ys.length) := hid (by rw [HL.out]; exact Nat.le_refl _)
      go_wp2_with fail
      refine (insertion_ _ _ lo ys a ms.length _ _ _ _ ho HL.out rfl rfl HN.out HBL.out (by omega) HX.out).mono ?_
      rintro e w2 ⟨rfl, zs, ho2, hp2, ⟨hs2, hm2⟩, hu2⟩
      have HO2 := hid ho2
      have HP2 := hid (hp2.trans HP.out)
      have HB2 : Hid (BlkF (key zs) 20 ms.length 0 ms.length) := hid (blk_end HD.out (fun s h1 h2 h3 h4 => (HB.out s h1 h2 h3 h4).congr fun t t1 t2 => hm2.out t (.inl (by have := dvd_lt h1 HD.out h3; omega))) (by omega) hs2)
      have HU2 := hid (HU.out.next hu2)
      clear ho2 hp2 hs2 hm2 hu2 ho
      clear HD HP HB HU HL HN HX HBL
      obtain ⟨wo, rfl⟩ : ∃ wo : World, wo = wr := ⟨_, rfl⟩
      go_wp2
      go_loopw [6, 7, 8, 9] (fun sB _ _ _ wr => ∃ (B : Nat) (ys : List Mn), 0 < B ∧ B < 4398046511104 ∧ sB = .int .i64 B ∧ LM 73 3 wr lo A k ys ∧ ys.Perm ms ∧ BlkF (key ys) B ms.length 0 ms.length ∧ Upd (atB A) w wr) (fun sB _ _ _ _ => ms.length - (intOf sB).toNat)
      case atStart => exact ⟨20, zs, by omega, by omega, rfl, HO2.out, HP2.out, HB2.out, HU2.out⟩
      case round =>
        clear HO2 HP2 HB2 HU2
        obtain ⟨B, ys, hB0, hB1, rfl, ho, hp, hb, hup⟩ := hrel
        have HP := hid hp
        have HB := hid hb
        have HU := hid hup
        have HO := hid ho
        clear hp hb hup ho
        by_cases hBn : B < ms.length
        · obtain ⟨wo2, rfl⟩ : ∃ wo : World, wo = wr := ⟨_, rfl⟩
          go_wp2
          go_loopw [7, 8] (fun sa sb wr => ∃ (a : Nat) (ys : List Mn), 2 * B ∣ a ∧ a ≤ ms.length ∧ sa = .int .i64 a ∧ sb = .int .i64 (a + 2 * B : Nat) ∧ LM 73 3 wr lo A k ys ∧ ys.Perm ms ∧ BlkF (key ys) (2 * B) ms.length 0 a ∧ BlkF (key ys) B ms.length a ms.length ∧ Upd (atB A) w wr) (fun sa _ _ => ms.length - (intOf sa).toNat)
          case atStart => exact ⟨0, ys, Nat.dvd_zero _, Nat.zero_le _, rfl, by go_num, HO.out, HP.out, blk_zero, HB.out, HU.out⟩
          case round =>
            clear HO HP HB HU
            obtain ⟨a, ys, hd, ha, rfl, rfl, ho, hp, hb, hb2, hup⟩ := hrel
            have HD := hid hd
            have HP := hid hp
            have HB := hid hb
            have HC := hid hb2
            have HU := hid hup
            have HL : Hid (ys.length = ms.length) := hid hp.length_eq
            have HN : Hid (ys.length < 1099511627776) := hid (by rw [HL.out]; exact hn)
            have HX : Hid (SzX ys) := hid fun x hx => hs x (hp.subset hx)
            clear hd hp hb hb2 hup
            by_cases hlt : a + 2 * B ≤ ms.length
            · have HBL : Hid (a + 2 * B ≤ ys.length) := hid (by rw [HL.out]; exact hlt)
              have P1 := hid (blk_l HC.out HD.out hB0 (by omega))
              have P2 := hid (blk_r (b := a + 2 * B) HC.out HD.out hB0 (by omega) (by omega))
              go_wp2_with fail
              refine (merge_ _ _ lo ys a (a + B) (a + 2 * B) _ _ _ _ _ ho HL.out rfl (by omega) rfl HN.out (by omega) (by omega) HBL.out HX.out P1.out P2.out).mono ?_
              rintro e w2 ⟨rfl, zs, ho2, hp2, ⟨hs2, hm2⟩, hu2⟩
              have HO2 := hid ho2
              have HP2 := hid (hp2.trans HP.out)
              have HB2 := hid (blk_step HD.out HB.out hm2 (show min (a + 2 * B) ms.length = a + 2 * B by omega) hs2)
              have HC2 := hid (blk_rest HC.out hm2 (by omega))
              have HU2 := hid (HU.out.next hu2)
              have HD2 := hid (Nat.dvd_add HD.out (Nat.dvd_refl (2 * B)))
              clear ho2 hp2 hs2 hm2 hu2 ho
              go_wp2
              go_roundw
              case rel => exact ⟨a + 2 * B, zs, HD2.out, hlt, rfl, by go_num, HO2.out, HP2.out, HB2.out, HC2.out, HU2.out⟩
              case measure => simp [intOf]; omega
            · by_cases hm : a + B < ms.length
              · have HBL : Hid (ms.length ≤ ys.length) := hid (by rw [HL.out]; exact Nat.le_refl _)
                have P1 := hid (blk_l HC.out HD.out hB0 (by omega))
                have P2 := hid (blk_r (b := ms.length) HC.out HD.out hB0 (by omega) (by omega))
                go_wp2_with fail
                refine (merge_ _ _ lo ys a (a + B) ms.length _ _ _ _ _ ho HL.out rfl (by omega) rfl HN.out (by omega) (by omega) HBL.out HX.out P1.out P2.out).mono ?_
                rintro e w2 ⟨rfl, zs, ho2, hp2, ⟨hs2, hm2⟩, hu2⟩
                have HO2 := hid ho2
                have HP2 := hid (hp2.trans HP.out)
                have HB2 : Hid (BlkF (key zs) (2 * B) ms.length 0 ms.length) := hid (blk_end HD.out (fun s h1 h2 h3 h4 => (HB.out s h1 h2 h3 h4).congr fun t t1 t2 => hm2.out t (.inl (by have := dvd_lt h1 HD.out h3; omega))) (by omega) hs2)
                have HU2 := hid (HU.out.next hu2)
                clear ho2 hp2 hs2 hm2 hu2 ho
                go_wp2
                go_roundw
                case rel => exact ⟨2 * B, zs, by omega, by omega, by go_num, HO2.out, HP2.out, HB2.out, HU2.out⟩
                case measure => simp [intOf]; omega
              · have HB2 : Hid (BlkF (key ys) (2 * B) ms.length 0 ms.length) := hid (blk_end HD.out HB.out (by omega) (blk_last HC.out HD.out hB0 (by omega)))
                have HO2 := hid ho
                clear ho
                go_wp2
                go_roundw
                case rel => exact ⟨2 * B, ys, by omega, by omega, by go_num, HO2.out, HP.out, HB2.out, HU.out⟩
                case measure => simp [intOf]; omega
        · have HR := hid (blk_all HB.out (by omega))
          go_wp2
          go_end0
          exact ⟨rfl, ys, HO.out, HP.out, HR.out, HU.out⟩

theorem sortStable (A : Option Addr) (k lo : Nat) (ms : List Mn) (w : World) (h : LM 73 3 w lo A k ms) (hn : ms.length < 1099511627776) (hs : SzX ms) :
    Calls Try.prog 100 #[.slice A ms.length k, .func (.func 101) #[] #[]] w (MvW 73 3 w lo A k ms (fun f g => SrtF g 0 ms.length)) := by
  go_enter Try.func100, Try.ntmps100
  go_wp2_with fail
  refine (stable _ _ lo ms _ h hn hs).mono ?_
  rintro e w2 ⟨rfl, zs, ho2, hp2, hs2, hu2⟩
  have HS := hid hs2
  have HP := hid hp2
  have HU := hid hu2
  clear hs2 hp2 hu2
  go_wp2
  go_end0
  exact ⟨rfl, zs, ho2, HP.out, HS.out, HU.out⟩
end Go.Proofs.Ytcgelcaepkakaaa
