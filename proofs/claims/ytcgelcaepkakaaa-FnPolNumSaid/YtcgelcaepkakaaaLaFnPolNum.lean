/- The law FnPolNum: a word as a sum is that word; what is told of a sum is what it comes to, whatever the atoms are; an atom is no word. Conditions: none. -/
import Derived.Test.YtcgelcaepkakaaaRows
import Derived.WalkKit
import Derived.ProofKit
import Derived.OpenShut
import Derived.ShutString
import Derived.ChangeOld
import Derived.Below
import Derived.Carry
import Derived.Test.YtcgelcaepkakaaaF
import Derived.Test.YtcgelcaepkakaaaK
import Derived.Test.YtcgelcaepkakaaaPX
import Derived.Deep.RegionHeld3
namespace Go.Proofs.Ytcgelcaepkakaaa.fnPolNum
open Go.ChangeShapes Go.WideShapes Go.ChangeAt Go.RowKit
set_option linter.unusedVariables false
set_option linter.unusedSimpArgs false

theorem OI.lit2 {TI : TypeId} (w : World) (x y : Int) : OI TI (w.alloc (.cells #[.int .i64 x, .int .i64 y] TI)) w.heap.size (some ⟨w.heap.size, 0, none⟩) 2 [x, y] := World.ownsRow_lit w #[.int .i64 x, .int .i64 y] 2 (Nat.le_refl _) (by unfold maxLen; omega) rfl
theorem OI.lit3 {TI : TypeId} (w : World) (x y z : Int) : OI TI (w.alloc (.cells #[.int .i64 x, .int .i64 y, .int .i64 z] TI)) w.heap.size (some ⟨w.heap.size, 0, none⟩) 3 [x, y, z] := World.ownsRow_lit w #[.int .i64 x, .int .i64 y, .int .i64 z] 3 (Nat.le_refl _) (by unfold maxLen; omega) rfl
theorem polConst_no {c : Int} (h : wrdOk c = false) : polConst c = [] := by
  unfold polConst
  rw [if_neg]
  intro h1
  unfold wrdOk at h
  unfold inB at h1
  simp at h h1
  omega

set_option maxRecDepth 100000 in
set_option maxHeartbeats 2000000 in
theorem walk (A0 : Option Addr) (k0 : Nat) (bs0 : List Int) (A1 : Option Addr) (k1 : Nat) (bs1 : List Int) (w : World) (h0 : AB w A0 bs0) (s0 : bs0.length ≤ 9223372036854775807 ∧ bs0.length ≤ k0) (h1 : AB w A1 bs1) (s1 : bs1.length ≤ 9223372036854775807 ∧ bs1.length ≤ k1) :
    Calls Try.prog 7 #[.slice A0 bs0.length k0, .slice A1 bs1.length k1] w fun e w' => e = .returned (.bool true) ∧ Ext w w' := by
  by_cases hz : (1048576 : Int) < bs0.length
  · go_enter Try.func7, Try.ntmps7
    go_wp2
    go_ret
    exact ⟨rfl, (by repeat (first | with_reducible assumption | with_reducible exact Ext.refl _ | with_reducible apply Ext.drewN | with_reducible apply Ext.drew | with_reducible apply Ext.alloc | with_reducible refine Ext.set ?_ (by first | (simp; done) | (simp; omega)) _ | with_reducible refine Ext.next ?_ (by with_reducible assumption)))⟩
  by_cases hy : (1048576 : Int) < bs1.length
  · go_enter Try.func7, Try.ntmps7
    go_wp2
    go_ret
    exact ⟨rfl, (by repeat (first | with_reducible assumption | with_reducible exact Ext.refl _ | with_reducible apply Ext.drewN | with_reducible apply Ext.drew | with_reducible apply Ext.alloc | with_reducible refine Ext.set ?_ (by first | (simp; done) | (simp; omega)) _ | with_reducible refine Ext.next ?_ (by with_reducible assumption)))⟩
  go_enter Try.func7, Try.ntmps7
  go_wp2_with fail
  refine (drawNum _ _ _ _ h0 s0.1 s0.2).mono ?_
  rintro e w1 ⟨A1, k1, ms1, x1, rfl, G1, _, hw1⟩
  have hs1 := G1.szM
  have HA := hid G1
  clear G1
  go_wp2_with fail
  refine (drawConst _ _ _ _ (h1.ext (by repeat (first | with_reducible assumption | with_reducible exact Ext.refl _ | with_reducible apply Ext.drewN | with_reducible apply Ext.drew | with_reducible apply Ext.alloc | with_reducible refine Ext.set ?_ (by first | (simp; done) | (simp; omega)) _ | with_reducible refine Ext.next ?_ (by with_reducible assumption)))) s1.1 s1.2).mono ?_
  rintro e w2 ⟨c, rfl, hc, hw2⟩
  have c1 : w2.cell? ⟨w1.heap.size, 0, none⟩ = some (.slice A1 ms1.length k1) := keep hw2 (by go_simp)
  have z1 := World.block_lt_of_cell? _ _ c1
  simp only at z1
  obtain ⟨n, ok, hnum⟩ : ∃ n b, polNum (ms1.map Mn.dat) = (n, b) := ⟨_, _, rfl⟩
  have HN := hid hnum
  have HEV : Hid (ok = true → ∀ vs, wordsB vs = true → polEval (ms1.map Mn.dat) vs = n) := hid fun h vs hv => polNum_eval (by rw [hnum, h]) hv
  obtain ⟨dc, hdc⟩ : ∃ d, polConst c = d := ⟨_, rfl⟩
  have HC := hid hdc
  clear hnum hdc
  have hne : (n != n) = false := by simp
  have hbe : (ok != ok) = false := by simp
  go_wp2_with fail
  refine (implPolNum_v _ _ ms1 _ (HA.out.rm.ext (by repeat (first | with_reducible assumption | with_reducible exact Ext.refl _ | with_reducible apply Ext.drewN | with_reducible apply Ext.drew | with_reducible apply Ext.alloc | with_reducible refine Ext.set ?_ (by first | (simp; done) | (simp; omega)) _ | with_reducible refine Ext.next ?_ (by with_reducible assumption)))) hs1 HN.out).mono ?_
  rintro e w3 ⟨rfl, hw3⟩
  replace c1 := keep (Ext.next (by repeat (first | with_reducible assumption | with_reducible exact Ext.refl _ | with_reducible apply Ext.drewN | with_reducible apply Ext.drew | with_reducible apply Ext.alloc | with_reducible refine Ext.set ?_ (by first | (simp; done) | (simp; omega)) _ | with_reducible refine Ext.next ?_ (by with_reducible assumption))) hw3) c1
  replace z1 := World.block_lt_of_cell? _ _ c1
  simp only at z1
  go_wp2_with fail
  refine (specPolNum_v _ _ ms1 _ (HA.out.rm.ext (by repeat (first | with_reducible assumption | with_reducible exact Ext.refl _ | with_reducible apply Ext.drewN | with_reducible apply Ext.drew | with_reducible apply Ext.alloc | with_reducible refine Ext.set ?_ (by first | (simp; done) | (simp; omega)) _ | with_reducible refine Ext.next ?_ (by with_reducible assumption)))) hs1 HN.out).mono ?_
  rintro e w4 ⟨rfl, hw4⟩
  replace c1 := keep (Ext.next (by repeat (first | with_reducible assumption | with_reducible exact Ext.refl _ | with_reducible apply Ext.drewN | with_reducible apply Ext.drew | with_reducible apply Ext.alloc | with_reducible refine Ext.set ?_ (by first | (simp; done) | (simp; omega)) _ | with_reducible refine Ext.next ?_ (by with_reducible assumption))) hw4) c1
  replace z1 := World.block_lt_of_cell? _ _ c1
  simp only at z1
  go_wp2_with fail
  refine (implPolConst_v c _ HC.out).mono ?_
  rintro e w5 ⟨A5, k5, ms5, rfl, hd5, hs5, ho5, hw5⟩
  replace c1 := keep (Ext.next (by repeat (first | with_reducible assumption | with_reducible exact Ext.refl _ | with_reducible apply Ext.drewN | with_reducible apply Ext.drew | with_reducible apply Ext.alloc | with_reducible refine Ext.set ?_ (by first | (simp; done) | (simp; omega)) _ | with_reducible refine Ext.next ?_ (by with_reducible assumption))) hw5) c1
  replace z1 := World.block_lt_of_cell? _ _ c1
  simp only at z1
  have HD5 := hid hd5
  have HP5 := hid ho5
  clear hd5 ho5
  go_wp2_with fail
  refine (specPolConst_v c _ HC.out).mono ?_
  rintro e w6 ⟨A6, k6, ms6, rfl, hd6, hs6, ho6, hw6⟩
  replace c1 := keep (Ext.next (by repeat (first | with_reducible assumption | with_reducible exact Ext.refl _ | with_reducible apply Ext.drewN | with_reducible apply Ext.drew | with_reducible apply Ext.alloc | with_reducible refine Ext.set ?_ (by first | (simp; done) | (simp; omega)) _ | with_reducible refine Ext.next ?_ (by with_reducible assumption))) hw6) c1
  replace z1 := World.block_lt_of_cell? _ _ c1
  simp only at z1
  have HD6 := hid hd6
  have HP6 := hid ho6
  clear hd6 ho6
  go_wp2_with fail
  refine (laPoly_v _ _ _ _ ms5 ms6 _ (HP5.out.rm.ext (by repeat (first | with_reducible assumption | with_reducible exact Ext.refl _ | with_reducible apply Ext.drewN | with_reducible apply Ext.drew | with_reducible apply Ext.alloc | with_reducible refine Ext.set ?_ (by first | (simp; done) | (simp; omega)) _ | with_reducible refine Ext.next ?_ (by with_reducible assumption)))) (HP6.out.rm.ext (by repeat (first | with_reducible assumption | with_reducible exact Ext.refl _ | with_reducible apply Ext.drewN | with_reducible apply Ext.drew | with_reducible apply Ext.alloc | with_reducible refine Ext.set ?_ (by first | (simp; done) | (simp; omega)) _ | with_reducible refine Ext.next ?_ (by with_reducible assumption)))) hs5 hs6 (HD5.out.trans HD6.out.symm)).mono ?_
  rintro e w7 ⟨rfl, hw7⟩
  replace c1 := keep (Ext.next (by repeat (first | with_reducible assumption | with_reducible exact Ext.refl _ | with_reducible apply Ext.drewN | with_reducible apply Ext.drew | with_reducible apply Ext.alloc | with_reducible refine Ext.set ?_ (by first | (simp; done) | (simp; omega)) _ | with_reducible refine Ext.next ?_ (by with_reducible assumption))) hw7) c1
  replace z1 := World.block_lt_of_cell? _ _ c1
  simp only at z1
  cases ok
  · go_wp2_with fail
    refine (specWrdOk _ _).mono ?_
    rintro e w' ⟨rfl, rfl⟩
    cases hk : wrdOk c
    · have HZ : Hid (dc = []) := hid (by rw [← HC.out]; exact polConst_no hk)
      have HK := hid hk
      clear hk
      go_wp2_with fail
      refine (implPolConst_v c _ HC.out).mono ?_
      rintro e w10 ⟨A10, k10, ms10, rfl, hd10, hs10, ho10, hw10⟩
      obtain rfl : ms10 = [] := List.map_eq_nil_iff.1 (hd10.trans HZ.out)
      clear hd10 ho10
      have hfd := field_monos
      go_wp2_with (go_at_call 17; refine (laOk_ _).mono ?_; rintro e w' ⟨rfl, rfl⟩)
      go_ret
      exact ⟨rfl, (by repeat (first | with_reducible assumption | with_reducible exact Ext.refl _ | with_reducible apply Ext.drewN | with_reducible apply Ext.drew | with_reducible apply Ext.alloc | with_reducible refine Ext.set ?_ (by first | (simp; done) | (simp; omega)) _ | with_reducible refine Ext.next ?_ (by with_reducible assumption)))⟩
    · have HN2 : Hid (polNum dc = (c, true)) := hid (by rw [← HC.out]; exact polNum_const hk)
      have HK := hid hk
      clear hk
      go_wp2_with fail
      refine (implPolConst_v c _ HC.out).mono ?_
      rintro e w10 ⟨A10, k10, ms10, rfl, hd10, hs10, ho10, hw10⟩
      have HD10 := hid hd10
      have HP10 := hid ho10
      clear hd10 ho10
      go_wp2_with fail
      refine (implPolNum_v _ _ ms10 _ (HP10.out.rm.ext (by repeat (first | with_reducible assumption | with_reducible exact Ext.refl _ | with_reducible apply Ext.drewN | with_reducible apply Ext.drew | with_reducible apply Ext.alloc | with_reducible refine Ext.set ?_ (by first | (simp; done) | (simp; omega)) _ | with_reducible refine Ext.next ?_ (by with_reducible assumption)))) hs10 (n := c) (b := true) (by rw [HD10.out]; exact HN2.out)).mono ?_
      rintro e w11 ⟨rfl, hw11⟩
      go_wp2_with fail
      refine (implPolAtom_v 3 _ (d := [(1, [3])]) rfl (by decide)).mono ?_
      rintro e w12 ⟨A12, k12, ms12, rfl, hd12, hs12, ho12, hw12⟩
      have HD12 := hid hd12
      have HP12 := hid ho12
      clear hd12 ho12
      go_wp2_with fail
      refine (implPolNum_v _ _ ms12 _ (HP12.out.rm.ext (by repeat (first | with_reducible assumption | with_reducible exact Ext.refl _ | with_reducible apply Ext.drewN | with_reducible apply Ext.drew | with_reducible apply Ext.alloc | with_reducible refine Ext.set ?_ (by first | (simp; done) | (simp; omega)) _ | with_reducible refine Ext.next ?_ (by with_reducible assumption)))) hs12 (n := 0) (b := false) (by rw [HD12.out]; rfl)).mono ?_
      rintro e w13 ⟨rfl, hw13⟩
      have hcc : (c == c) = true := by simp
      go_wp2_with fail
      refine (implPolAtom_v 1 _ (d := [(1, [1])]) rfl (by decide)).mono ?_
      rintro e w14 ⟨A14, k14, ms14, rfl, hd14, hs14, ho14, hw14⟩
      have HD14 := hid hd14
      have HP14 := hid ho14
      clear hd14 ho14
      go_wp2_with fail
      refine (implPolEval_v _ _ _ _ 2 ms14 [4, 5] _ (HP14.out.rm.ext (by repeat (first | with_reducible assumption | with_reducible exact Ext.refl _ | with_reducible apply Ext.drewN | with_reducible apply Ext.drew | with_reducible apply Ext.alloc | with_reducible refine Ext.set ?_ (by first | (simp; done) | (simp; omega)) _ | with_reducible refine Ext.next ?_ (by with_reducible assumption)))) hs14 ((OI.lit2 w14 4 5).ri.ext (by repeat (first | with_reducible assumption | with_reducible exact Ext.refl _ | with_reducible apply Ext.drewN | with_reducible apply Ext.drew | with_reducible apply Ext.alloc | with_reducible refine Ext.set ?_ (by first | (simp; done) | (simp; omega)) _ | with_reducible refine Ext.next ?_ (by with_reducible assumption)))) rfl (by simp) (v := 5) (by rw [HD14.out]; decide)).mono ?_
      rintro e w15 ⟨rfl, hw15⟩
      go_wp2
      go_ret
      exact ⟨rfl, (by repeat (first | with_reducible assumption | with_reducible exact Ext.refl _ | with_reducible apply Ext.drewN | with_reducible apply Ext.drew | with_reducible apply Ext.alloc | with_reducible refine Ext.set ?_ (by first | (simp; done) | (simp; omega)) _ | with_reducible refine Ext.next ?_ (by with_reducible assumption)))⟩
  · go_wp2_with fail
    refine (implPolEval_v _ _ _ _ 3 ms1 [7, 8, 9] _ (HA.out.rm.ext (by repeat (first | with_reducible assumption | with_reducible exact Ext.refl _ | with_reducible apply Ext.drewN | with_reducible apply Ext.drew | with_reducible apply Ext.alloc | with_reducible refine Ext.set ?_ (by first | (simp; done) | (simp; omega)) _ | with_reducible refine Ext.next ?_ (by with_reducible assumption)))) hs1 ((OI.lit3 w7 7 8 9).ri.ext (by repeat (first | with_reducible assumption | with_reducible exact Ext.refl _ | with_reducible apply Ext.drewN | with_reducible apply Ext.drew | with_reducible apply Ext.alloc | with_reducible refine Ext.set ?_ (by first | (simp; done) | (simp; omega)) _ | with_reducible refine Ext.next ?_ (by with_reducible assumption)))) rfl (by simp) (HEV.out (by trivial) [7, 8, 9] (by decide))).mono ?_
    rintro e w8 ⟨rfl, hw8⟩
    replace c1 := keep (Ext.next (by repeat (first | with_reducible assumption | with_reducible exact Ext.refl _ | with_reducible apply Ext.drewN | with_reducible apply Ext.drew | with_reducible apply Ext.alloc | with_reducible refine Ext.set ?_ (by first | (simp; done) | (simp; omega)) _ | with_reducible refine Ext.next ?_ (by with_reducible assumption))) hw8) c1
    replace z1 := World.block_lt_of_cell? _ _ c1
    simp only at z1
    go_wp2_with fail
    refine (implPolEval_v _ _ _ _ 0 ms1 [] _ (HA.out.rm.ext (by repeat (first | with_reducible assumption | with_reducible exact Ext.refl _ | with_reducible apply Ext.drewN | with_reducible apply Ext.drew | with_reducible apply Ext.alloc | with_reducible refine Ext.set ?_ (by first | (simp; done) | (simp; omega)) _ | with_reducible refine Ext.next ?_ (by with_reducible assumption)))) hs1 ((OI.made w8 (Nat.le_refl _)).ri.ext (by repeat (first | with_reducible assumption | with_reducible exact Ext.refl _ | with_reducible apply Ext.drewN | with_reducible apply Ext.drew | with_reducible apply Ext.alloc | with_reducible refine Ext.set ?_ (by first | (simp; done) | (simp; omega)) _ | with_reducible refine Ext.next ?_ (by with_reducible assumption)))) rfl (by simp) (HEV.out (by trivial) [] (by decide))).mono ?_
    rintro e w9 ⟨rfl, hw9⟩
    go_wp2_with fail
    refine (specWrdOk _ _).mono ?_
    rintro e w' ⟨rfl, rfl⟩
    cases hk : wrdOk c
    · have HZ : Hid (dc = []) := hid (by rw [← HC.out]; exact polConst_no hk)
      have HK := hid hk
      clear hk
      go_wp2_with fail
      refine (implPolConst_v c _ HC.out).mono ?_
      rintro e w10 ⟨A10, k10, ms10, rfl, hd10, hs10, ho10, hw10⟩
      obtain rfl : ms10 = [] := List.map_eq_nil_iff.1 (hd10.trans HZ.out)
      clear hd10 ho10
      have hfd := field_monos
      go_wp2_with (go_at_call 17; refine (laOk_ _).mono ?_; rintro e w' ⟨rfl, rfl⟩)
      go_ret
      exact ⟨rfl, (by repeat (first | with_reducible assumption | with_reducible exact Ext.refl _ | with_reducible apply Ext.drewN | with_reducible apply Ext.drew | with_reducible apply Ext.alloc | with_reducible refine Ext.set ?_ (by first | (simp; done) | (simp; omega)) _ | with_reducible refine Ext.next ?_ (by with_reducible assumption)))⟩
    · have HN2 : Hid (polNum dc = (c, true)) := hid (by rw [← HC.out]; exact polNum_const hk)
      have HK := hid hk
      clear hk
      go_wp2_with fail
      refine (implPolConst_v c _ HC.out).mono ?_
      rintro e w10 ⟨A10, k10, ms10, rfl, hd10, hs10, ho10, hw10⟩
      have HD10 := hid hd10
      have HP10 := hid ho10
      clear hd10 ho10
      go_wp2_with fail
      refine (implPolNum_v _ _ ms10 _ (HP10.out.rm.ext (by repeat (first | with_reducible assumption | with_reducible exact Ext.refl _ | with_reducible apply Ext.drewN | with_reducible apply Ext.drew | with_reducible apply Ext.alloc | with_reducible refine Ext.set ?_ (by first | (simp; done) | (simp; omega)) _ | with_reducible refine Ext.next ?_ (by with_reducible assumption)))) hs10 (n := c) (b := true) (by rw [HD10.out]; exact HN2.out)).mono ?_
      rintro e w11 ⟨rfl, hw11⟩
      go_wp2_with fail
      refine (implPolAtom_v 3 _ (d := [(1, [3])]) rfl (by decide)).mono ?_
      rintro e w12 ⟨A12, k12, ms12, rfl, hd12, hs12, ho12, hw12⟩
      have HD12 := hid hd12
      have HP12 := hid ho12
      clear hd12 ho12
      go_wp2_with fail
      refine (implPolNum_v _ _ ms12 _ (HP12.out.rm.ext (by repeat (first | with_reducible assumption | with_reducible exact Ext.refl _ | with_reducible apply Ext.drewN | with_reducible apply Ext.drew | with_reducible apply Ext.alloc | with_reducible refine Ext.set ?_ (by first | (simp; done) | (simp; omega)) _ | with_reducible refine Ext.next ?_ (by with_reducible assumption)))) hs12 (n := 0) (b := false) (by rw [HD12.out]; rfl)).mono ?_
      rintro e w13 ⟨rfl, hw13⟩
      have hcc : (c == c) = true := by simp
      go_wp2_with fail
      refine (implPolAtom_v 1 _ (d := [(1, [1])]) rfl (by decide)).mono ?_
      rintro e w14 ⟨A14, k14, ms14, rfl, hd14, hs14, ho14, hw14⟩
      have HD14 := hid hd14
      have HP14 := hid ho14
      clear hd14 ho14
      go_wp2_with fail
      refine (implPolEval_v _ _ _ _ 2 ms14 [4, 5] _ (HP14.out.rm.ext (by repeat (first | with_reducible assumption | with_reducible exact Ext.refl _ | with_reducible apply Ext.drewN | with_reducible apply Ext.drew | with_reducible apply Ext.alloc | with_reducible refine Ext.set ?_ (by first | (simp; done) | (simp; omega)) _ | with_reducible refine Ext.next ?_ (by with_reducible assumption)))) hs14 ((OI.lit2 w14 4 5).ri.ext (by repeat (first | with_reducible assumption | with_reducible exact Ext.refl _ | with_reducible apply Ext.drewN | with_reducible apply Ext.drew | with_reducible apply Ext.alloc | with_reducible refine Ext.set ?_ (by first | (simp; done) | (simp; omega)) _ | with_reducible refine Ext.next ?_ (by with_reducible assumption)))) rfl (by simp) (v := 5) (by rw [HD14.out]; decide)).mono ?_
      rintro e w15 ⟨rfl, hw15⟩
      go_wp2
      go_ret
      exact ⟨rfl, (by repeat (first | with_reducible assumption | with_reducible exact Ext.refl _ | with_reducible apply Ext.drewN | with_reducible apply Ext.drew | with_reducible apply Ext.alloc | with_reducible refine Ext.set ?_ (by first | (simp; done) | (simp; omega)) _ | with_reducible refine Ext.next ?_ (by with_reducible assumption)))⟩

set_option maxRecDepth 100000 in
theorem lifted (os : Os) (started : os.Started) (H : Type) (enc : TypeId × Value → H) :
    ReturnsInHanded {} Try.checked os 7 .any (Rows.fnPolNumSpec.pre6 enc Try.prog Try.f7 Rows.fnPolNumRow.domain false) (Rows.fnPolNumSpec.post enc Try.prog Try.f7 false true false false) := by
  refine returnsInHanded_of_change (C := Try.checked) ownKnob_ started (by kernel_rfl) Try.func7
    (ChangeSpec.witness6 (enc := enc) (C := Try.checked) false ⟨#[], #[.slice none 0 0, .slice none 0 0], []⟩ 8 (by kernel_rfl) (by kernel_rfl) (by kernel_rfl) (by kernel_rfl)) ?_
  intro W base args ds gs before hval0 hW hcnd _
  have hval : ∀ (j : Nat) t v, Try.f7.params[j]? = some t → args[j]? = some v → Value.okWide Try.prog W .any base t v := hval0
  have hW' := hW
  obtain ⟨p, q, hA0, hV, rfl, hfz, hnd⟩ := hW
  have hA : DataW.TrodAll enc Try.prog W 0 (fun _ => true) true Try.f7.params.toList args.toList ds p := hA0
  rw [Try.params7] at hA hval
  obtain ⟨v0, vs0, d0, ds0, p0, q0, hargs, rfl, rfl, g0, r0⟩ := trodAll_cons hA
  obtain ⟨v1, vs1, d1, ds1, p1, q1, rfl, rfl, rfl, g1, r1⟩ := trodAll_cons r0
  obtain ⟨rfl, rfl, rfl⟩ := trodAll_nil r1
  obtain rfl : args = #[v0, v1] := by cases args; simp_all
  obtain ⟨rfl, rfl⟩ := trodVars_none hV
  have lt0 : ∀ x ∈ p0, x.block < W.heap.size := by obtain ⟨m, hm⟩ := g0; exact DataW.trod_lt m _ _ _ hm
  obtain ⟨A0, k0, bs0, e0, h0, s0⟩ := read_bytes (hval 0 22 v0 rfl rfl) g0
  subst e0
  have lt1 : ∀ x ∈ p1, x.block < W.heap.size := by obtain ⟨m, hm⟩ := g1; exact DataW.trod_lt m _ _ _ hm
  obtain ⟨A1, k1, bs1, e1, h1, s1⟩ := read_bytes (hval 1 22 v1 rfl rfl) g1
  subst e1
  clear hA0 hval0
  refine (walk A0 k0 bs0 A1 k1 bs1 W h0 s0 h1 s1).mono fun e W' ⟨he, bel⟩ => ?_
  subst he
  exact ⟨_, rfl, _, _, _, [], _, [], hW', trodAll_mk1 (shut_bool Try.underlying4 _), (trodAll_cons_mk (Below.trod laidOut_ (by kernel_rfl) (of_decide_eq_true (by kernel_rfl)) g0 bel.out lt0) (trodAll_cons_mk (Below.trod laidOut_ (by kernel_rfl) (of_decide_eq_true (by kernel_rfl)) g1 bel.out lt1) trodAll_mk0)), rfl, bel.out.frame _, fun h => by cases h⟩
theorem cf0 : (fun (P : Program) (f : FuncId) (fn : Func) (s : ChangeSpec) (c : OpenClaim) => (c.wf (OpenSpec.ofChange s) : Bool)) Try.prog 7 Try.f7 Rows.fnPolNumSpec Rows.fnPolNumRow = true := by kernel_rfl
theorem cf3 : (fun (P : Program) (f : FuncId) (fn : Func) (s : ChangeSpec) (c : OpenClaim) => (fn.params.all (P.readableRec ·) : Bool)) Try.prog 7 Try.f7 Rows.fnPolNumSpec Rows.fnPolNumRow = true := by kernel_rfl
theorem cf4 : (fun (P : Program) (f : FuncId) (fn : Func) (s : ChangeSpec) (c : OpenClaim) => (namedTie P c.named s.vars : Bool)) Try.prog 7 Try.f7 Rows.fnPolNumSpec Rows.fnPolNumRow = true := by kernel_rfl
theorem cf5 : (fun (P : Program) (f : FuncId) (fn : Func) (s : ChangeSpec) (c : OpenClaim) => ((c.stops == []) : Bool)) Try.prog 7 Try.f7 Rows.fnPolNumSpec Rows.fnPolNumRow = true := by kernel_rfl
theorem cf7 : (fun (P : Program) (f : FuncId) (fn : Func) (s : ChangeSpec) (c : OpenClaim) => ((c.knobs == []) : Bool)) Try.prog 7 Try.f7 Rows.fnPolNumSpec Rows.fnPolNumRow = true := by kernel_rfl
theorem cf9 : (fun (P : Program) (f : FuncId) (fn : Func) (s : ChangeSpec) (c : OpenClaim) => ((c.inPlace == P.inPlace f) : Bool)) Try.prog 7 Try.f7 Rows.fnPolNumSpec Rows.fnPolNumRow = true := by kernel_rfl
theorem cf10 : (fun (P : Program) (f : FuncId) (fn : Func) (s : ChangeSpec) (c : OpenClaim) => ((c.unfollowed == P.unfollowed f) : Bool)) Try.prog 7 Try.f7 Rows.fnPolNumSpec Rows.fnPolNumRow = true := by kernel_rfl
theorem cf11 : (fun (P : Program) (f : FuncId) (fn : Func) (s : ChangeSpec) (c : OpenClaim) => ((c.recurses == P.recurses f) : Bool)) Try.prog 7 Try.f7 Rows.fnPolNumSpec Rows.fnPolNumRow = true := by kernel_rfl
theorem cf12 : (fun (P : Program) (f : FuncId) (fn : Func) (s : ChangeSpec) (c : OpenClaim) => ((c.named == P.varsNamed f) : Bool)) Try.prog 7 Try.f7 Rows.fnPolNumSpec Rows.fnPolNumRow = true := by kernel_rfl
theorem cf13 : (fun (P : Program) (f : FuncId) (fn : Func) (s : ChangeSpec) (c : OpenClaim) => ((c.maps == (fn.params.toList ++ s.plain.varTypes P).any (P.mapsRec ·)) : Bool)) Try.prog 7 Try.f7 Rows.fnPolNumSpec Rows.fnPolNumRow = true := by kernel_rfl
theorem cf14 : (fun (P : Program) (f : FuncId) (fn : Func) (s : ChangeSpec) (c : OpenClaim) => ((c.ifaces == (fn.params.toList ++ s.plain.varTypes P).any (P.ifacesRec ·)) : Bool)) Try.prog 7 Try.f7 Rows.fnPolNumSpec Rows.fnPolNumRow = true := by kernel_rfl
theorem cf15 : (fun (P : Program) (f : FuncId) (fn : Func) (s : ChangeSpec) (c : OpenClaim) => ((c.mapsOut == P.mapsAmong fn.resultTypes.toList) : Bool)) Try.prog 7 Try.f7 Rows.fnPolNumSpec Rows.fnPolNumRow = true := by kernel_rfl
theorem cf16 : (fun (P : Program) (f : FuncId) (fn : Func) (s : ChangeSpec) (c : OpenClaim) => ((c.loops == (fn.params.toList ++ s.plain.varTypes P).any (P.loopsFrom ·)) : Bool)) Try.prog 7 Try.f7 Rows.fnPolNumSpec Rows.fnPolNumRow = true := by kernel_rfl
theorem cf17 : (fun (P : Program) (f : FuncId) (fn : Func) (s : ChangeSpec) (c : OpenClaim) => ((c.wideKeys == (fn.params.toList ++ s.plain.varTypes P ++ fn.resultTypes.toList).any (P.wideKeysFrom ·)) : Bool)) Try.prog 7 Try.f7 Rows.fnPolNumSpec Rows.fnPolNumRow = true := by kernel_rfl
theorem cf18 : (fun (P : Program) (f : FuncId) (fn : Func) (s : ChangeSpec) (c : OpenClaim) => (s.vars.all (P.varReadable ·) : Bool)) Try.prog 7 Try.f7 Rows.fnPolNumSpec Rows.fnPolNumRow = true := by kernel_rfl
theorem cf19 : (fun (P : Program) (f : FuncId) (fn : Func) (s : ChangeSpec) (c : OpenClaim) => (fn.resultTypes.all (fun t => P.readableRec t && decide (t < P.types.size)) : Bool)) Try.prog 7 Try.f7 Rows.fnPolNumSpec Rows.fnPolNumRow = true := by kernel_rfl
theorem cf20 : (fun (P : Program) (f : FuncId) (fn : Func) (s : ChangeSpec) (c : OpenClaim) => ((c.ifacesOut == fn.resultTypes.toList.any (P.ifacesRec ·)) : Bool)) Try.prog 7 Try.f7 Rows.fnPolNumSpec Rows.fnPolNumRow = true := by kernel_rfl
theorem cf21 : (fun (P : Program) (f : FuncId) (fn : Func) (s : ChangeSpec) (c : OpenClaim) => ((c.loopsOut == fn.resultTypes.toList.any (P.loopsFrom ·)) : Bool)) Try.prog 7 Try.f7 Rows.fnPolNumSpec Rows.fnPolNumRow = true := by kernel_rfl
theorem cf23 : (fun (P : Program) (f : FuncId) (fn : Func) (s : ChangeSpec) (c : OpenClaim) => (c.shortTexts.isNone : Bool)) Try.prog 7 Try.f7 Rows.fnPolNumSpec Rows.fnPolNumRow = true := by kernel_rfl
theorem cf28 : (fun (P : Program) (f : FuncId) (fn : Func) (s : ChangeSpec) (c : OpenClaim) => ((c.kinds == (if c.domain.isEmpty then [] else fn.params.toList.map fun t => match P.underlying t with | some (.int k) => some k | _ => none)) : Bool)) Try.prog 7 Try.f7 Rows.fnPolNumSpec Rows.fnPolNumRow = true := by kernel_rfl
theorem cf29 : (fun (P : Program) (f : FuncId) (fn : Func) (s : ChangeSpec) (c : OpenClaim) => ((c.pinned == c.pinnedBy) : Bool)) Try.prog 7 Try.f7 Rows.fnPolNumSpec Rows.fnPolNumRow = true := by kernel_rfl
theorem cf30 : (fun (P : Program) (f : FuncId) (fn : Func) (s : ChangeSpec) (c : OpenClaim) => ((c.veiled == (fn.params.toList ++ s.plain.varTypes P ++ fn.resultTypes.toList).any (P.veiledRec ·)) : Bool)) Try.prog 7 Try.f7 Rows.fnPolNumSpec Rows.fnPolNumRow = true := by kernel_rfl
theorem cf31 : (fun (P : Program) (f : FuncId) (fn : Func) (s : ChangeSpec) (c : OpenClaim) => (c.veiledFits P fn.params.toList (fn.params.toList ++ s.plain.varTypes P ++ fn.resultTypes.toList) : Bool)) Try.prog 7 Try.f7 Rows.fnPolNumSpec Rows.fnPolNumRow = true := by kernel_rfl

set_option maxRecDepth 100000 in
theorem closed : joinedFacts Try.prog 7 Try.f7 Rows.fnPolNumSpec Rows.fnPolNumRow = true := by
  unfold joinedFacts
  exact (band (band (band (band (band (band (band (band (band (band (band (band (band (band (band (band (band (band (band (band (band (band (band (band (band (band (band (band (band (band (band cf0 pf1) pf2) cf3) cf4) cf5) pf6) cf7) pf8) cf9) cf10) cf11) cf12) cf13) cf14) cf15) cf16) cf17) cf18) cf19) cf20) cf21) pf22) cf23) pf24) pf25) pf26) pf27) cf28) cf29) cf30) cf31)
theorem inst : Try.f7.isInstance Try.prog Rows.fnPolNumRow.origin Rows.fnPolNumRow.targs := of_decide_eq_true (by kernel_rfl)
theorem wrap_ : Try.f7.isWrapper Try.prog Rows.fnPolNumRow.wrapper Rows.fnPolNumRow.mainSum := by
  unfold Func.isWrapper
  rw [if_neg (by decide +kernel)]
  exact ⟨rfl, rfl⟩

theorem over : Rows.fnPolNumRow.holds Try.pinned (OpenSpec.ofChange Rows.fnPolNumSpec) :=
  OpenClaim.holds_of_wide 7 Try.f7 rfl rfl rfl rfl rfl rfl rfl ⟨rfl, rfl, rfl, rfl, rfl⟩ rfl rfl rfl rfl rfl (by as_aux_lemma => kernel_rfl) Try.func7 closed inst wrap_
    (fun os started H enc _ => lifted os started H enc)

theorem proved : Rows.FnPolNumSaid := over
#print axioms proved
end Go.Proofs.Ytcgelcaepkakaaa.fnPolNum
