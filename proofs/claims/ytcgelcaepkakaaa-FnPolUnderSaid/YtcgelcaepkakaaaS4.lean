/- Contracts of the library's sort by insertion, at parts of sums in the order of their atoms. Conditions: lengths that a machine can hold. -/
import Derived.Test.YtcgelcaepkakaaaS3
namespace Go.Proofs.Ytcgelcaepkakaaa
open Go Go.RowKit
set_option linter.unusedVariables false
set_option linter.unusedSimpArgs false

/-- No part has more atoms than a machine can hold. -/
def SzX (ms : List Mn) : Prop := ∀ m ∈ ms, m.xs.length < 4611686018427387904
theorem sumCmp (c c' : Int) (A A' : Option Addr) (k k' n n' : Nat) (xs ys : List Int) (w : World) (h : RI 3 w A xs) (h' : RI 3 w A' ys) (hn : xs.length = n) (hn' : ys.length = n') (hs : n < 4611686018427387904) (hs' : n' < 4611686018427387904) :
    Calls Try.prog 101 #[.agg #[.int .i64 c, .slice A n k], .agg #[.int .i64 c', .slice A' n' k']] w fun e w' => e = .returned (.int .i64 (aOrd xs ys)) ∧ Ext w w' := by
  subst hn hn'
  go_enter Try.func101, Try.ntmps101
  go_wp2_with fail
  refine (atomsOrder _ _ _ _ _ _ _ (h.ext (by repeat (first | with_reducible assumption | with_reducible exact Ext.refl _ | with_reducible apply Ext.drewN | with_reducible apply Ext.drew | with_reducible apply Ext.alloc | with_reducible refine Ext.set ?_ (by first | (simp; done) | (simp; omega)) _ | with_reducible refine Ext.next ?_ (by with_reducible assumption)))) (h'.ext (by repeat (first | with_reducible assumption | with_reducible exact Ext.refl _ | with_reducible apply Ext.drewN | with_reducible apply Ext.drew | with_reducible apply Ext.alloc | with_reducible refine Ext.set ?_ (by first | (simp; done) | (simp; omega)) _ | with_reducible refine Ext.next ?_ (by with_reducible assumption)))) hs hs').mono ?_
  rintro e w1 ⟨rfl, hw1⟩
  go_wp2
  go_ret
  exact ⟨rfl, (by repeat (first | with_reducible assumption | with_reducible exact Ext.refl _ | with_reducible apply Ext.drewN | with_reducible apply Ext.drew | with_reducible apply Ext.alloc | with_reducible refine Ext.set ?_ (by first | (simp; done) | (simp; omega)) _ | with_reducible refine Ext.next ?_ (by with_reducible assumption)))⟩

set_option maxHeartbeats 1000000 in
theorem insertion (A : Option Addr) (k lo : Nat) (ms : List Mn) (a b : Nat) (w : World) (h : LM 73 3 w lo A k ms) (hn : ms.length < 1099511627776) (hb : b ≤ ms.length) (ha : a < 1099511627776) (hs : SzX ms) :
    Calls Try.prog 143 #[.slice A ms.length k, .int .i64 a, .int .i64 b, .func (.func 101) #[] #[]] w (MvW 73 3 w lo A k ms (fun f g => SrtF g a b ∧ MvF f g a b)) := by
  go_enter Try.func143, Try.ntmps143
  go_wp2
  go_loopw [8, 9] (fun si sj wr => ∃ (i : Nat) (ys : List Mn), a + 1 ≤ i ∧ (i ≤ b ∨ i ≤ a + 1) ∧ si = .int .i64 i ∧ LM 73 3 wr lo A k ys ∧ ys.Perm ms ∧ SrtF (key ys) a i ∧ MvF (key ms) (key ys) a b ∧ Upd (atB A) w wr) (fun si _ _ => b - (intOf si).toNat)
  case atStart => exact ⟨a + 1, ms, by omega, by omega, by go_num, h, List.Perm.refl _, fun i j h1 h2 h3 => by omega, MvF.refl _ _ _, Upd.refl _ _⟩
  case round =>
    obtain ⟨i, ys, hi1, hi2, rfl, ho, hp, hr, hm, hup⟩ := hrel
    by_cases hlt : i < b
    · have HI := hid (ins_start hr)
      have HP := hid hp
      have HM := hid hm
      have HU := hid hup
      clear hr hp hm hup h
      obtain ⟨wo, rfl⟩ : ∃ wo : World, wo = wr := ⟨_, rfl⟩
      go_wp2
      go_loopw [9] (fun sj wr => ∃ (j : Nat) (zs : List Mn), a ≤ j ∧ j ≤ i ∧ sj = .int .i64 j ∧ LM 73 3 wr lo A k zs ∧ zs.Perm ms ∧ InsF (key zs) a i j ∧ MvF (key ms) (key zs) a b ∧ Upd (atB A) w wr) (fun sj _ => (intOf sj).toNat)
      case atStart => exact ⟨i, ys, by omega, by omega, rfl, ho, HP.out, HI.out, HM.out, HU.out⟩
      case round =>
        obtain ⟨j, zs, hj1, hj2, rfl, ho2, hp2, hr2, hm2, hup2⟩ := hrel
        by_cases hja : a < j
        · obtain ⟨q, rfl⟩ : ∃ q, j = q + 1 := ⟨j - 1, by omega⟩
          have hl2 := hp2.length_eq
          have hx : zs[q]? = some zs[q] := List.getElem?_eq_getElem (by omega)
          have hy : zs[q + 1]? = some zs[q + 1] := List.getElem?_eq_getElem (by omega)
          generalize zs[q] = x at hx
          generalize zs[q + 1] = y at hy
          obtain ⟨g, rfl, hlo, hg, cx0, cx1, fx0, fx1⟩ := ho2.form hx
          obtain ⟨g', e', _, _, cy0, cy1, fy0, fy1⟩ := ho2.form hy
          injection e' with e'
          injection e' with e' _ _
          subst e'
          have hix := (ho2.2 x (List.mem_of_getElem? hx)).1
          have hiy := (ho2.2 y (List.mem_of_getElem? hy)).1
          have hsx := hs x (hp2.subset (List.mem_of_getElem? hx))
          have hsy := hs y (hp2.subset (List.mem_of_getElem? hy))
          have KX := hid (key_at hx)
          have KY := hid (key_at hy)
          have HX := hid hx
          have HY := hid hy
          have HO := hid ho2
          have HR := hid hr2
          have HP2 := hid hp2
          have HM2 := hid hm2
          have HU2 := hid hup2
          have hql : q + 1 < ms.length := by omega
          have hgd : decide ((a : Int) < (q : Int) + 1) = true := decide_eq_true (by omega)
          clear hx hy ho2 hr2 hp2 hm2 hup2 hl2 ho
          by_cases hc : aOrd y.xs x.xs < 0
          · have HK : Hid (aOrd (key zs (q + 1)) (key zs q) < 0) := hid (by rw [KX.out, KY.out]; exact hc)
            have hcd : decide (aOrd y.xs x.xs < 0) = true := decide_eq_true hc
            go_wp2
            refine wp_region_over (by kernel_rfl) (by kernel_rfl) ?_
            repeat (go_big_quiet_step ((go_at_call 101; exact calls_over (sumCmp _ _ _ _ _ _ _ _ y.xs x.xs _ (hiy.ext (Over.ext _)) (hix.ext (Over.ext _)) rfl rfl hsy hsx))))
            refine wpQuiet_nil ?_
            rintro _ ⟨⟨wq, hwq⟩, rfl⟩
            have cx0' := keep hwq cx0
            have cx1' := keep hwq cx1
            have cy0' := keep hwq cy0
            have cy1' := keep hwq cy1
            have fx0' := keepf hwq cx0 fx0
            have fx1' := keepf hwq cx1 fx1
            have fy0' := keepf hwq cy0 fy0
            have fy1' := keepf hwq cy1 fy1
            have hg' := lt_ext hwq hg
            have HS := hid ((HO.out.ext hwq).swap (by decide) HY.out HX.out)
            have HU3 := hid (HU2.out.next (.of_ext hwq))
            clear cx0 cx1 cy0 cy1 fx0 fx1 fy0 fy1 hix hiy hg hwq
            go_wp2
            go_region
            go_wp2
            go_roundw
            case rel => exact ⟨q, swp zs (q + 1) q y x, by omega, by omega, by go_num, HS.out.ext (Ext.refl _).drew, (swp_perm HY.out HX.out).trans HP2.out, ins_step HR.out (by omega) hj2 HK.out (swp_key HY.out HX.out), HM2.out.trans ((swp_key HY.out HX.out).mv ⟨by omega, by omega⟩ ⟨by omega, by omega⟩), (HU3.out.next (Upd.four rfl)).drew⟩
            case measure => simp [intOf]
          · have HK : Hid (SrtF (key zs) a (i + 1)) := hid (ins_done HR.out hj2 (.inr (by rw [Nat.add_sub_cancel, KX.out, KY.out]; omega)))
            have hcd : decide (aOrd y.xs x.xs < 0) = false := decide_eq_false hc
            go_wp2
            refine wp_region_over (by kernel_rfl) (by kernel_rfl) ?_
            repeat (go_big_quiet_step ((go_at_call 101; exact calls_over (sumCmp _ _ _ _ _ _ _ _ y.xs x.xs _ (hiy.ext (Over.ext _)) (hix.ext (Over.ext _)) rfl rfl hsy hsx))))
            refine wpQuiet_nil ?_
            rintro _ ⟨⟨wq, hwq⟩, rfl⟩
            have HO3 := hid (HO.out.ext hwq)
            have HU3 := hid (HU2.out.next (.of_ext hwq))
            clear cx0 cx1 cy0 cy1 fx0 fx1 fy0 fy1 hix hiy hg hwq
            go_wp2
            go_roundw
            case rel => exact ⟨i + 1, zs, by omega, by omega, by go_num, HO3.out, HP2.out, HK.out, HM2.out, HU3.out⟩
            case measure => simp [intOf]; omega
        · have HK : Hid (SrtF (key zs) a (i + 1)) := hid (ins_done hr2 hj2 (.inl (by omega)))
          have hgd : decide ((a : Int) < (j : Int)) = false := decide_eq_false (by omega)
          have HP2 := hid hp2
          have HM2 := hid hm2
          have HU2 := hid hup2
          clear hr2 hp2 hm2 hup2 ho
          go_wp2
          refine wp_region_over (by kernel_rfl) (by kernel_rfl) ?_
          repeat (go_big_quiet_step (fail))
          refine wpQuiet_nil ?_
          rintro _ ⟨⟨wq, hwq⟩, rfl⟩
          have HO3 := hid (ho2.ext hwq)
          have HU3 := hid (HU2.out.next (.of_ext hwq))
          clear ho2 hwq
          go_wp2
          go_roundw
          case rel => exact ⟨i + 1, zs, by omega, by omega, by go_num, HO3.out, HP2.out, HK.out, HM2.out, HU3.out⟩
          case measure => simp [intOf]; omega
    · have HR := hid (hr.sub (Nat.le_refl a) (show b ≤ i by omega))
      have HP := hid hp
      have HM := hid hm
      clear hr hp hm h
      go_wp2
      go_end0
      exact ⟨rfl, ys, ho, HP.out, ⟨HR.out, HM.out⟩, hup⟩

theorem insertion_ (A : Option Addr) (k lo : Nat) (ms : List Mn) (a b : Nat) (ai bi : Int) (len : Nat) (w : World) (h : LM 73 3 w lo A k ms) (hl : ms.length = len) (ha' : ai = a) (hb' : bi = b) (hn : ms.length < 1099511627776) (hb : b ≤ ms.length) (ha : a < 1099511627776) (hs : SzX ms) :
    Calls Try.prog 143 #[.slice A len k, .int .i64 ai, .int .i64 bi, .func (.func 101) #[] #[]] w (MvW 73 3 w lo A k ms (fun f g => SrtF g a b ∧ MvF f g a b)) := by
  subst hl ha' hb'
  exact insertion _ _ _ _ _ _ _ h hn hb ha hs
end Go.Proofs.Ytcgelcaepkakaaa
