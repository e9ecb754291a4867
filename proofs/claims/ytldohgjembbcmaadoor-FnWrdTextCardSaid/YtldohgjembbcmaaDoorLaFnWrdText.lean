/- The law FnWrdText: a word's text is read as it, and what WrdRead reads has that text. Conditions: none. -/
import Derived.Test.YtldohgjembbcmaaDoorRows
import Derived.WalkKit
import Derived.ProofKit
import Derived.OpenShut
import Derived.ShutString
import Derived.ChangeOld
import Derived.Below
import Derived.Carry
import Derived.Test.YtldohgjembbcmaaDoorF
import Derived.Test.YtldohgjembbcmaaDoorK
import Derived.Test.YtldohgjembbcmaaDoorTie
import Derived.Test.YtldohgjembbcmaaDoorCards
import Derived.SevenTiedAt
import Derived.Test.YtldohgjembbcmaaDoorST
import Derived.Test.YtldohgjembbcmaaDoorSR
namespace Go.Proofs.YtldohgjembbcmaaDoor.fnWrdText
open Go.ChangeShapes Go.WideShapes Go.ChangeAt Go.RowKit
set_option linter.unusedVariables false
set_option linter.unusedSimpArgs false

set_option maxRecDepth 100000 in
set_option maxHeartbeats 2000000 in
theorem walk (A0 : Option Addr) (k0 : Nat) (bs0 : List Int) (A1 : Option Addr) (k1 : Nat) (bs1 : List Int) (w : World) (hF : LaidAt5 w) (h0 : AB w A0 bs0) (s0 : bs0.length ≤ 9223372036854775807 ∧ bs0.length ≤ k0) (h1 : AB w A1 bs1) (s1 : bs1.length ≤ 9223372036854775807 ∧ bs1.length ≤ k1) :
    Calls Tryd.prog 5 #[.slice A0 bs0.length k0, .slice A1 bs1.length k1] w fun e w' => e = .returned (.bool true) ∧ Ext w w' := by
  by_cases hz : (1048576 : Int) < bs0.length
  · go_enter Tryd.func5, Tryd.ntmps5
    go_wp2
    go_ret
    exact ⟨rfl, (by repeat (first | with_reducible assumption | with_reducible exact Ext.refl _ | with_reducible apply Ext.drewN | with_reducible apply Ext.drew | with_reducible apply Ext.alloc | with_reducible refine Ext.set ?_ (by first | (simp; done) | (simp; omega)) _ | with_reducible refine Ext.next ?_ (by with_reducible assumption)))⟩
  by_cases hy : (1048576 : Int) < bs1.length
  · go_enter Tryd.func5, Tryd.ntmps5
    go_wp2
    go_ret
    exact ⟨rfl, (by repeat (first | with_reducible assumption | with_reducible exact Ext.refl _ | with_reducible apply Ext.drewN | with_reducible apply Ext.drew | with_reducible apply Ext.alloc | with_reducible refine Ext.set ?_ (by first | (simp; done) | (simp; omega)) _ | with_reducible refine Ext.next ?_ (by with_reducible assumption)))⟩
  go_enter Tryd.func5, Tryd.ntmps5
  go_wp2_with fail
  refine (drawText _ _ _ _ h0 s0.1 s0.2).mono ?_
  rintro e w1 ⟨v, rfl, hv, hw1⟩
  go_wp2_with fail
  refine (drawRead _ _ _ _ (h1.ext (by repeat (first | with_reducible assumption | with_reducible exact Ext.refl _ | with_reducible apply Ext.drewN | with_reducible apply Ext.drew | with_reducible apply Ext.alloc | with_reducible refine Ext.set ?_ (by first | (simp; done) | (simp; omega)) _ | with_reducible refine Ext.next ?_ (by with_reducible assumption)))) s1.1 s1.2).mono ?_
  rintro e w2 ⟨X, rfl, hX, hw2⟩
  obtain ⟨l, rfl⟩ : ∃ l : List UInt8, X = ⟨l.toArray⟩ := ⟨X.data.toList, by cases X; simp⟩
  have hsz : (ByteArray.mk l.toArray).size = l.length := by show l.toArray.size = _; simp
  have hl : l.length ≤ 202 := by omega
  clear hX hsz
  obtain ⟨n, ok, hr⟩ : ∃ n b, wrdRead l = (n, b) := ⟨_, _, rfl⟩
  have HR := hid hr
  have HT2 : Hid (ok = true → wrdText n = l) := hid fun h => by
    have := wrdRead_text (l := l) (by rw [hr]; exact h)
    rw [hr] at this
    exact this
  have hne : (n != n) = false := by simp
  have hbe : (ok != ok) = false := by simp
  obtain ⟨tl, htl⟩ : ∃ tl, wrdText v = tl := ⟨_, rfl⟩
  have HTL := hid htl
  have hbq : (tl == tl) = true := by simp
  have hbl : (l == l) = true := by simp
  have t1 : (ByteArray.mk tl.toArray).toList = tl := by rw [ByteArray.toList_eq]
  have t2 : (ByteArray.mk l.toArray).toList = l := by rw [ByteArray.toList_eq]
  clear hr htl
  go_wp2_with fail
  refine (implWrdRead l _ (by omega) (hF.ext (by repeat (first | with_reducible assumption | with_reducible exact Ext.refl _ | with_reducible apply Ext.drewN | with_reducible apply Ext.drew | with_reducible apply Ext.alloc | with_reducible refine Ext.set ?_ (by first | (simp; done) | (simp; omega)) _ | with_reducible refine Ext.next ?_ (by with_reducible assumption))))).mono ?_
  rintro e w3 ⟨rfl, hw3⟩
  rw [HR.out]
  go_wp2_with fail
  refine (specWrdRead l _ (by omega)).mono ?_
  rintro e w4 ⟨rfl, hw4⟩
  rw [HR.out]
  go_wp2_with fail
  refine (implWrdText _ _ (hF.1.ext (by repeat (first | with_reducible assumption | with_reducible exact Ext.refl _ | with_reducible apply Ext.drewN | with_reducible apply Ext.drew | with_reducible apply Ext.alloc | with_reducible refine Ext.set ?_ (by first | (simp; done) | (simp; omega)) _ | with_reducible refine Ext.next ?_ (by with_reducible assumption))))).mono ?_
  rintro e w5 ⟨rfl, hw5⟩
  rw [HTL.out]
  go_wp2_with fail
  refine (specWrdText _ _).mono ?_
  rintro e w6 ⟨rfl, hw6⟩
  rw [HTL.out]
  cases ok
  · go_wp2_with fail
    refine (specWrdOk _ _).mono ?_
    rintro e w' ⟨rfl, rfl⟩
    cases hk : wrdOk v
    · have HZ : Hid (tl = []) := hid (by rw [← HTL.out]; unfold wrdText; rw [hk]; rfl)
      have HK := hid hk
      clear hk
      have t3 : (ByteArray.mk #[]).toList = [] := by rw [ByteArray.toList_eq]
      have t4 : ((tl : List UInt8) == []) = true := by rw [HZ.out]; rfl
      go_wp2_with fail
      refine (implWrdText _ _ (hF.1.ext (by repeat (first | with_reducible assumption | with_reducible exact Ext.refl _ | with_reducible apply Ext.drewN | with_reducible apply Ext.drew | with_reducible apply Ext.alloc | with_reducible refine Ext.set ?_ (by first | (simp; done) | (simp; omega)) _ | with_reducible refine Ext.next ?_ (by with_reducible assumption))))).mono ?_
      rintro e w9 ⟨rfl, hw9⟩
      rw [HTL.out]
      go_wp2_with (go_at_call 13; refine (laOk_ _).mono ?_; rintro e w' ⟨rfl, rfl⟩)
      go_ret
      exact ⟨rfl, (by repeat (first | with_reducible assumption | with_reducible exact Ext.refl _ | with_reducible apply Ext.drewN | with_reducible apply Ext.drew | with_reducible apply Ext.alloc | with_reducible refine Ext.set ?_ (by first | (simp; done) | (simp; omega)) _ | with_reducible refine Ext.next ?_ (by with_reducible assumption)))⟩
    · have HI : Hid (wrdRead tl = (v, true)) := hid (by rw [← HTL.out]; exact wrdText_inv hk)
      have hvv : (v == v) = true := by simp
      have hl5 : tl.length ≤ 5 := by
        have := wrdOk_nat hk
        rw [← HTL.out, show v = ((v.toNat : Nat) : Int) by omega, wrdText_of (by omega)]
        exact (dec_length (by omega)).2
      have HK := hid hk
      clear hk
      go_wp2_with fail
      refine (implWrdText _ _ (hF.1.ext (by repeat (first | with_reducible assumption | with_reducible exact Ext.refl _ | with_reducible apply Ext.drewN | with_reducible apply Ext.drew | with_reducible apply Ext.alloc | with_reducible refine Ext.set ?_ (by first | (simp; done) | (simp; omega)) _ | with_reducible refine Ext.next ?_ (by with_reducible assumption))))).mono ?_
      rintro e w9 ⟨rfl, hw9⟩
      rw [HTL.out]
      go_wp2_with fail
      refine (implWrdRead tl _ (by omega) (hF.ext (by repeat (first | with_reducible assumption | with_reducible exact Ext.refl _ | with_reducible apply Ext.drewN | with_reducible apply Ext.drew | with_reducible apply Ext.alloc | with_reducible refine Ext.set ?_ (by first | (simp; done) | (simp; omega)) _ | with_reducible refine Ext.next ?_ (by with_reducible assumption))))).mono ?_
      rintro e w10 ⟨rfl, hw10⟩
      rw [HI.out]
      go_wp2
      go_ret
      exact ⟨rfl, (by repeat (first | with_reducible assumption | with_reducible exact Ext.refl _ | with_reducible apply Ext.drewN | with_reducible apply Ext.drew | with_reducible apply Ext.alloc | with_reducible refine Ext.set ?_ (by first | (simp; done) | (simp; omega)) _ | with_reducible refine Ext.next ?_ (by with_reducible assumption)))⟩
  · have HW := hid (HT2.out (by trivial))
    go_wp2_with fail
    refine (implWrdText _ _ (hF.1.ext (by repeat (first | with_reducible assumption | with_reducible exact Ext.refl _ | with_reducible apply Ext.drewN | with_reducible apply Ext.drew | with_reducible apply Ext.alloc | with_reducible refine Ext.set ?_ (by first | (simp; done) | (simp; omega)) _ | with_reducible refine Ext.next ?_ (by with_reducible assumption))))).mono ?_
    rintro e w7 ⟨rfl, hw7⟩
    rw [HW.out]
    go_wp2_with fail
    refine (specWrdOk _ _).mono ?_
    rintro e w' ⟨rfl, rfl⟩
    cases hk : wrdOk v
    · have HZ : Hid (tl = []) := hid (by rw [← HTL.out]; unfold wrdText; rw [hk]; rfl)
      have HK := hid hk
      clear hk
      have t3 : (ByteArray.mk #[]).toList = [] := by rw [ByteArray.toList_eq]
      have t4 : ((tl : List UInt8) == []) = true := by rw [HZ.out]; rfl
      go_wp2_with fail
      refine (implWrdText _ _ (hF.1.ext (by repeat (first | with_reducible assumption | with_reducible exact Ext.refl _ | with_reducible apply Ext.drewN | with_reducible apply Ext.drew | with_reducible apply Ext.alloc | with_reducible refine Ext.set ?_ (by first | (simp; done) | (simp; omega)) _ | with_reducible refine Ext.next ?_ (by with_reducible assumption))))).mono ?_
      rintro e w9 ⟨rfl, hw9⟩
      rw [HTL.out]
      go_wp2_with (go_at_call 13; refine (laOk_ _).mono ?_; rintro e w' ⟨rfl, rfl⟩)
      go_ret
      exact ⟨rfl, (by repeat (first | with_reducible assumption | with_reducible exact Ext.refl _ | with_reducible apply Ext.drewN | with_reducible apply Ext.drew | with_reducible apply Ext.alloc | with_reducible refine Ext.set ?_ (by first | (simp; done) | (simp; omega)) _ | with_reducible refine Ext.next ?_ (by with_reducible assumption)))⟩
    · have HI : Hid (wrdRead tl = (v, true)) := hid (by rw [← HTL.out]; exact wrdText_inv hk)
      have hvv : (v == v) = true := by simp
      have hl5 : tl.length ≤ 5 := by
        have := wrdOk_nat hk
        rw [← HTL.out, show v = ((v.toNat : Nat) : Int) by omega, wrdText_of (by omega)]
        exact (dec_length (by omega)).2
      have HK := hid hk
      clear hk
      go_wp2_with fail
      refine (implWrdText _ _ (hF.1.ext (by repeat (first | with_reducible assumption | with_reducible exact Ext.refl _ | with_reducible apply Ext.drewN | with_reducible apply Ext.drew | with_reducible apply Ext.alloc | with_reducible refine Ext.set ?_ (by first | (simp; done) | (simp; omega)) _ | with_reducible refine Ext.next ?_ (by with_reducible assumption))))).mono ?_
      rintro e w9 ⟨rfl, hw9⟩
      rw [HTL.out]
      go_wp2_with fail
      refine (implWrdRead tl _ (by omega) (hF.ext (by repeat (first | with_reducible assumption | with_reducible exact Ext.refl _ | with_reducible apply Ext.drewN | with_reducible apply Ext.drew | with_reducible apply Ext.alloc | with_reducible refine Ext.set ?_ (by first | (simp; done) | (simp; omega)) _ | with_reducible refine Ext.next ?_ (by with_reducible assumption))))).mono ?_
      rintro e w10 ⟨rfl, hw10⟩
      rw [HI.out]
      go_wp2
      go_ret
      exact ⟨rfl, (by repeat (first | with_reducible assumption | with_reducible exact Ext.refl _ | with_reducible apply Ext.drewN | with_reducible apply Ext.drew | with_reducible apply Ext.alloc | with_reducible refine Ext.set ?_ (by first | (simp; done) | (simp; omega)) _ | with_reducible refine Ext.next ?_ (by with_reducible assumption)))⟩

set_option maxRecDepth 100000 in
theorem lifted (os : Os) (started : os.Started) (H : Type) (enc : TypeId × Value → H) :
    ReturnsInHanded {} Tryd.checked os 5 .any (fun w args => (Rows.fnWrdTextSpec.pre enc Tryd.prog Tryd.f5 Rows.fnWrdTextRow.domain false w args ∧ laidMetH Tryd.prog laidL5 w) ∧ sizedMet enc Tryd.prog Tryd.f5 (OpenSpec.ofChange Rows.fnWrdTextSpec) false w args) (Rows.fnWrdTextSpec.post enc Tryd.prog Tryd.f5 false true false false) := by
  refine returnsInHanded_of_change_and (C := Tryd.checked) (X := fun w _ => laidMetH Tryd.prog laidL5 w) (fun _ _ _ hh h => h.of_heap hh) ownKnob_ started (by kernel_rfl) Tryd.func5
    (ChangeSpec.witness_shaped (enc := enc) (C := Tryd.checked) (os := os) (X := fun w _ => laidMetH Tryd.prog laidL5 w) false (World.doorLaid Tryd.prog 62 os) #[.slice none 0 0, .slice none 0 0] 8 rfl (World.shaped_of_RefB (by kernel_rfl) (by kernel_rfl)) (by kernel_rfl) (by kernel_rfl) (by kernel_rfl) (door_met5 os _)) ?_
  intro W base args ds gs before hval0 hW hcnd _ hL _
  have hval : ∀ (j : Nat) t v, Tryd.f5.params[j]? = some t → args[j]? = some v → Value.okWide Tryd.prog W .any base t v := hval0
  have hW' := hW
  obtain ⟨p, q, hA0, hV, rfl, hfz, hnd⟩ := hW
  have hA : DataW.TrodAll enc Tryd.prog W 0 (fun _ => true) true Tryd.f5.params.toList args.toList ds p := hA0
  rw [Tryd.params5] at hA hval
  obtain ⟨v0, vs0, d0, ds0, p0, q0, hargs, rfl, rfl, g0, r0⟩ := trodAll_cons hA
  obtain ⟨v1, vs1, d1, ds1, p1, q1, rfl, rfl, rfl, g1, r1⟩ := trodAll_cons r0
  obtain ⟨rfl, rfl, rfl⟩ := trodAll_nil r1
  obtain rfl : args = #[v0, v1] := by cases args; simp_all
  obtain ⟨rfl, rfl⟩ := trodVars_none hV
  have hF := laidAt_of5 hL
  have lt0 : ∀ x ∈ p0, x.block < W.heap.size := by obtain ⟨m, hm⟩ := g0; exact DataW.trod_lt m _ _ _ hm
  obtain ⟨A0, k0, bs0, e0, h0, s0⟩ := read_bytes (hval 0 27 v0 rfl rfl) g0
  subst e0
  have lt1 : ∀ x ∈ p1, x.block < W.heap.size := by obtain ⟨m, hm⟩ := g1; exact DataW.trod_lt m _ _ _ hm
  obtain ⟨A1, k1, bs1, e1, h1, s1⟩ := read_bytes (hval 1 27 v1 rfl rfl) g1
  subst e1
  clear hA0 hval0
  refine (walk A0 k0 bs0 A1 k1 bs1 W hF h0 s0 h1 s1).mono fun e W' ⟨he, bel⟩ => ?_
  subst he
  exact ⟨_, rfl, _, _, _, [], _, [], hW', trodAll_mk1 (shut_bool Tryd.underlying4 _), (trodAll_cons_mk (Below.trod laidOut_ (by kernel_rfl) (of_decide_eq_true (by kernel_rfl)) g0 bel.out lt0) (trodAll_cons_mk (Below.trod laidOut_ (by kernel_rfl) (of_decide_eq_true (by kernel_rfl)) g1 bel.out lt1) trodAll_mk0)), rfl, bel.out.frame _, fun h => by cases h⟩
theorem cf0 : (fun (P : Program) (f : FuncId) (fn : Func) (s : ChangeSpec) (c : OpenClaim) => (c.wf (OpenSpec.ofChange s) : Bool)) Tryd.prog 5 Tryd.f5 Rows.fnWrdTextSpec Rows.fnWrdTextRow = true := by kernel_rfl
theorem cf3 : (fun (P : Program) (f : FuncId) (fn : Func) (s : ChangeSpec) (c : OpenClaim) => (fn.params.all (P.readableRec ·) : Bool)) Tryd.prog 5 Tryd.f5 Rows.fnWrdTextSpec Rows.fnWrdTextRow = true := by kernel_rfl
theorem cf4 : (fun (P : Program) (f : FuncId) (fn : Func) (s : ChangeSpec) (c : OpenClaim) => (namedTie P c.named s.vars : Bool)) Tryd.prog 5 Tryd.f5 Rows.fnWrdTextSpec Rows.fnWrdTextRow = true := by kernel_rfl
theorem cf5 : (fun (P : Program) (f : FuncId) (fn : Func) (s : ChangeSpec) (c : OpenClaim) => ((c.stops == []) : Bool)) Tryd.prog 5 Tryd.f5 Rows.fnWrdTextSpec Rows.fnWrdTextRow = true := by kernel_rfl
theorem cf7 : (fun (P : Program) (f : FuncId) (fn : Func) (s : ChangeSpec) (c : OpenClaim) => ((c.knobs == []) : Bool)) Tryd.prog 5 Tryd.f5 Rows.fnWrdTextSpec Rows.fnWrdTextRow = true := by kernel_rfl
theorem cf9 : (fun (P : Program) (f : FuncId) (fn : Func) (s : ChangeSpec) (c : OpenClaim) => ((c.inPlace == P.inPlace f) : Bool)) Tryd.prog 5 Tryd.f5 Rows.fnWrdTextSpec Rows.fnWrdTextRow = true := by kernel_rfl
theorem cf10 : (fun (P : Program) (f : FuncId) (fn : Func) (s : ChangeSpec) (c : OpenClaim) => ((c.unfollowed == P.unfollowed f) : Bool)) Tryd.prog 5 Tryd.f5 Rows.fnWrdTextSpec Rows.fnWrdTextRow = true := by kernel_rfl
theorem cf11 : (fun (P : Program) (f : FuncId) (fn : Func) (s : ChangeSpec) (c : OpenClaim) => ((c.recurses == P.recurses f) : Bool)) Tryd.prog 5 Tryd.f5 Rows.fnWrdTextSpec Rows.fnWrdTextRow = true := by kernel_rfl
theorem cf12 : (fun (P : Program) (f : FuncId) (fn : Func) (s : ChangeSpec) (c : OpenClaim) => ((c.named == P.varsNamed f) : Bool)) Tryd.prog 5 Tryd.f5 Rows.fnWrdTextSpec Rows.fnWrdTextRow = true := by kernel_rfl
theorem cf13 : (fun (P : Program) (f : FuncId) (fn : Func) (s : ChangeSpec) (c : OpenClaim) => ((c.maps == (fn.params.toList ++ s.plain.varTypes P).any (P.mapsRec ·)) : Bool)) Tryd.prog 5 Tryd.f5 Rows.fnWrdTextSpec Rows.fnWrdTextRow = true := by kernel_rfl
theorem cf14 : (fun (P : Program) (f : FuncId) (fn : Func) (s : ChangeSpec) (c : OpenClaim) => ((c.ifaces == (fn.params.toList ++ s.plain.varTypes P).any (P.ifacesRec ·)) : Bool)) Tryd.prog 5 Tryd.f5 Rows.fnWrdTextSpec Rows.fnWrdTextRow = true := by kernel_rfl
theorem cf15 : (fun (P : Program) (f : FuncId) (fn : Func) (s : ChangeSpec) (c : OpenClaim) => ((c.mapsOut == P.mapsAmong fn.resultTypes.toList) : Bool)) Tryd.prog 5 Tryd.f5 Rows.fnWrdTextSpec Rows.fnWrdTextRow = true := by kernel_rfl
theorem cf16 : (fun (P : Program) (f : FuncId) (fn : Func) (s : ChangeSpec) (c : OpenClaim) => ((c.loops == (fn.params.toList ++ s.plain.varTypes P).any (P.loopsFrom ·)) : Bool)) Tryd.prog 5 Tryd.f5 Rows.fnWrdTextSpec Rows.fnWrdTextRow = true := by kernel_rfl
theorem cf17 : (fun (P : Program) (f : FuncId) (fn : Func) (s : ChangeSpec) (c : OpenClaim) => ((c.wideKeys == (fn.params.toList ++ s.plain.varTypes P ++ fn.resultTypes.toList).any (P.wideKeysFrom ·)) : Bool)) Tryd.prog 5 Tryd.f5 Rows.fnWrdTextSpec Rows.fnWrdTextRow = true := by kernel_rfl
theorem cf18 : (fun (P : Program) (f : FuncId) (fn : Func) (s : ChangeSpec) (c : OpenClaim) => (s.vars.all (P.varReadable ·) : Bool)) Tryd.prog 5 Tryd.f5 Rows.fnWrdTextSpec Rows.fnWrdTextRow = true := by kernel_rfl
theorem cf19 : (fun (P : Program) (f : FuncId) (fn : Func) (s : ChangeSpec) (c : OpenClaim) => (fn.resultTypes.all (fun t => P.readableRec t && decide (t < P.types.size)) : Bool)) Tryd.prog 5 Tryd.f5 Rows.fnWrdTextSpec Rows.fnWrdTextRow = true := by kernel_rfl
theorem cf20 : (fun (P : Program) (f : FuncId) (fn : Func) (s : ChangeSpec) (c : OpenClaim) => ((c.ifacesOut == fn.resultTypes.toList.any (P.ifacesRec ·)) : Bool)) Tryd.prog 5 Tryd.f5 Rows.fnWrdTextSpec Rows.fnWrdTextRow = true := by kernel_rfl
theorem cf21 : (fun (P : Program) (f : FuncId) (fn : Func) (s : ChangeSpec) (c : OpenClaim) => ((c.loopsOut == fn.resultTypes.toList.any (P.loopsFrom ·)) : Bool)) Tryd.prog 5 Tryd.f5 Rows.fnWrdTextSpec Rows.fnWrdTextRow = true := by kernel_rfl
theorem cf23 : (fun (P : Program) (f : FuncId) (fn : Func) (s : ChangeSpec) (c : OpenClaim) => (c.shortTexts.isNone : Bool)) Tryd.prog 5 Tryd.f5 Rows.fnWrdTextSpec Rows.fnWrdTextRow = true := by kernel_rfl
theorem cf28 : (fun (P : Program) (f : FuncId) (fn : Func) (s : ChangeSpec) (c : OpenClaim) => ((c.kinds == (if c.domain.isEmpty then [] else fn.params.toList.map fun t => match P.underlying t with | some (.int k) => some k | _ => none)) : Bool)) Tryd.prog 5 Tryd.f5 Rows.fnWrdTextSpec Rows.fnWrdTextRow = true := by kernel_rfl
theorem cf29 : (fun (P : Program) (f : FuncId) (fn : Func) (s : ChangeSpec) (c : OpenClaim) => ((c.pinned == c.pinnedBy) : Bool)) Tryd.prog 5 Tryd.f5 Rows.fnWrdTextSpec Rows.fnWrdTextRow = true := by kernel_rfl
theorem cf30 : (fun (P : Program) (f : FuncId) (fn : Func) (s : ChangeSpec) (c : OpenClaim) => ((c.veiled == (fn.params.toList ++ s.plain.varTypes P ++ fn.resultTypes.toList).any (P.veiledRec ·)) : Bool)) Tryd.prog 5 Tryd.f5 Rows.fnWrdTextSpec Rows.fnWrdTextRow = true := by kernel_rfl
theorem cf31 : (fun (P : Program) (f : FuncId) (fn : Func) (s : ChangeSpec) (c : OpenClaim) => (c.veiledFits P fn.params.toList (fn.params.toList ++ s.plain.varTypes P ++ fn.resultTypes.toList) : Bool)) Tryd.prog 5 Tryd.f5 Rows.fnWrdTextSpec Rows.fnWrdTextRow = true := by kernel_rfl

set_option maxRecDepth 100000 in
theorem closed : joinedFacts Tryd.prog 5 Tryd.f5 Rows.fnWrdTextSpec Rows.fnWrdTextRow = true := by
  unfold joinedFacts
  exact (band (band (band (band (band (band (band (band (band (band (band (band (band (band (band (band (band (band (band (band (band (band (band (band (band (band (band (band (band (band (band cf0 pf1) pf2) cf3) cf4) cf5) pf6) cf7) pf8) cf9) cf10) cf11) cf12) cf13) cf14) cf15) cf16) cf17) cf18) cf19) cf20) cf21) pf22) cf23) pf24) pf25) pf26) pf27) cf28) cf29) cf30) cf31)
theorem inst : Tryd.f5.isInstance Tryd.prog Rows.fnWrdTextRow.origin Rows.fnWrdTextRow.targs := of_decide_eq_true (by kernel_rfl)
theorem wrap_ : Tryd.f5.isWrapper Tryd.prog Rows.fnWrdTextRow.wrapper Rows.fnWrdTextRow.mainSum := by
  unfold Func.isWrapper
  rw [if_neg (by decide +kernel)]
  exact ⟨rfl, rfl⟩

theorem over : Rows.fnWrdTextRow.holds Tryd.pinned (OpenSpec.ofChange Rows.fnWrdTextSpec) :=
  OpenClaim.holds_of_wide 5 Tryd.f5 rfl rfl rfl rfl rfl rfl rfl ⟨rfl, rfl, rfl, rfl, rfl⟩ rfl rfl rfl rfl rfl (by as_aux_lemma => kernel_rfl) Tryd.func5 closed inst wrap_
    (fun os started H enc _ => lifted os started H enc)

theorem proved : Rows.FnWrdTextCardSaid :=
  Claim7.holds_tied_plain_at .later [] [.data, .data, .data, .sentinel, .sentinel] true (true, "c2b5080177348abbe4790c2dedd5dd6f8946262227f7d9de78cb07530c7fc03b") true over (fun _ h => by cases h) (by kernel_rfl) (fun _ h => by cases h) fnWrdText_row_tie rfl ⟨rfl, rfl⟩ (by kernel_rfl) rfl
    (fun f fn hf hfn => by
      obtain rfl : f = 5 := Option.some.inj ((show Tryd.prog.funcNamed "loop.example/latimer/laws.FnWrdText" = some 5 by kernel_rfl).symm.trans hf) |>.symm
      obtain rfl : fn = Tryd.f5 := (Option.some.inj (Tryd.func5.symm.trans hfn)).symm
      exact ⟨by kernel_rfl, fun j t ht => by
        rw [Tryd.params5] at ht
        have hm : t ∈ [27, 27] := by simpa using Array.mem_of_getElem? ht
        have hall : ([27, 27].all fun u => !Tryd.prog.wantsStandIn u) = true := by kernel_rfl
        exact (show Tryd.prog.wantsStandIn t = false by simpa using List.all_eq_true.1 hall t hm)⟩)
    (by kernel_rfl)
#print axioms proved
end Go.Proofs.YtldohgjembbcmaaDoor.fnWrdText
