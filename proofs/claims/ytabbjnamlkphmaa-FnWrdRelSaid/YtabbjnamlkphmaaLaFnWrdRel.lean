/- The law FnWrdRel: of two words one is less, or both are the same. Conditions: none. -/
import Derived.Test.YtabbjnamlkphmaaRows
import Derived.WalkKit
import Derived.ProofKit
import Derived.OpenShut
import Derived.ShutString
import Derived.ChangeOld
import Derived.Below
import Derived.Carry
import Derived.Test.YtabbjnamlkphmaaF
import Derived.Test.YtabbjnamlkphmaaK
import Derived.Test.YtabbjnamlkphmaaJ
namespace Go.Proofs.Ytabbjnamlkphmaa.fnWrdRel
open Go.ChangeShapes Go.WideShapes Go.ChangeAt Go.RowKit
set_option linter.unusedVariables false
set_option linter.unusedSimpArgs false

theorem rel_no (r a b : Int) (h : (wrdOk a && wrdOk b) = false) : wrdRel r a b = false := by unfold wrdRel; rw [h]; rfl
theorem rel_no' (r a b : Int) (h : (wrdOk a && wrdOk b) = false) : wrdRel r b a = false := rel_no r b a (by rw [Bool.and_comm]; exact h)
theorem rel_same (a b : Int) (ha : wrdOk a = true) (hb : wrdOk b = true) : wrdRel 1 a b = (a == b) := by unfold wrdRel; rw [ha, hb]; simp
theorem rel_less (a b : Int) (ha : wrdOk a = true) (hb : wrdOk b = true) : wrdRel 2 a b = decide (a < b) := by unfold wrdRel; rw [ha, hb]; simp

theorem walk (A0 : Option Addr) (k0 : Nat) (bs0 : List Int) (w : World) (h0 : AB w A0 bs0) (s0 : bs0.length ≤ 9223372036854775807 ∧ bs0.length ≤ k0) :
    Calls Try.prog 5 #[.slice A0 bs0.length k0] w fun e w' => e = .returned (.bool true) ∧ Ext w w' := by
  by_cases hz : (1048576 : Int) < bs0.length
  · go_enter Try.func5, Try.ntmps5
    go_wp2
    go_ret
    exact ⟨rfl, (by repeat (first | with_reducible assumption | with_reducible exact Ext.refl _ | with_reducible apply Ext.drewN | with_reducible apply Ext.drew | with_reducible apply Ext.alloc | with_reducible refine Ext.set ?_ (by first | (simp; done) | (simp; omega)) _ | with_reducible refine Ext.next ?_ (by with_reducible assumption)))⟩
  go_enter Try.func5, Try.ntmps5
  go_wp2_with fail
  refine (drawRel _ _ _ _ h0 s0.1 s0.2).mono ?_
  rintro e w1 ⟨o, a, b, rfl, hw1⟩
  cases hok : wrdOk a && wrdOk b
  · have E1 := hid (rel_no 1 a b hok)
    have E2 := hid (rel_no 2 a b hok)
    have E3 := hid (rel_no' 2 a b hok)
    cases ha : wrdOk a
    · clear hok
      have HA := hid ha
      clear ha
      go_wp2_with (first | (go_at_call 22; refine (implWrdRel _ _ _ _).mono ?_; rintro e w' ⟨rfl, rfl⟩; try (first | rw [E1.out] | rw [E2.out] | rw [E3.out])) | (go_at_call 23; refine (specWrdRel _ _ _ _).mono ?_; rintro e w' ⟨rfl, rfl⟩) | (go_at_call 20; refine (specWrdOk _ _).mono ?_; rintro e w' ⟨rfl, rfl⟩; rw [HA.out]) | (go_at_call 24; refine (laOk_ _).mono ?_; rintro e w' ⟨rfl, rfl⟩))
      go_ret
      exact ⟨rfl, hw1⟩
    · have HB : Hid (wrdOk b = false) := hid (by rw [ha] at hok; exact hok)
      clear hok
      have HA := hid ha
      clear ha
      go_wp2_with (first | (go_at_call 22; refine (implWrdRel _ _ _ _).mono ?_; rintro e w' ⟨rfl, rfl⟩; try (first | rw [E1.out] | rw [E2.out] | rw [E3.out])) | (go_at_call 23; refine (specWrdRel _ _ _ _).mono ?_; rintro e w' ⟨rfl, rfl⟩) | (go_at_call 20; refine (specWrdOk _ _).mono ?_; rintro e w' ⟨rfl, rfl⟩; first | rw [HA.out] | rw [HB.out]) | (go_at_call 24; refine (laOk_ _).mono ?_; rintro e w' ⟨rfl, rfl⟩))
      go_ret
      exact ⟨rfl, hw1⟩
  · rw [Bool.and_eq_true] at hok
    obtain ⟨ha, hb⟩ := hok
    have E1 := rel_same a b ha hb
    have E2 := rel_less a b ha hb
    have E3 := rel_less b a hb ha
    have E4 := rel_same b a hb ha
    have HA := hid ha
    have HB := hid hb
    clear ha hb
    rcases Int.lt_trichotomy a b with hlt | rfl | hlt
    · rw [show (a == b) = false by rw [beq_eq_false_iff_ne]; omega] at E1
      rw [decide_eq_true hlt] at E2
      rw [decide_eq_false (by omega)] at E3
      rw [show (b == a) = false by rw [beq_eq_false_iff_ne]; omega] at E4
      have hab : (a == b) = false := by rw [beq_eq_false_iff_ne]; omega
      have F1 := hid E1
      have F2 := hid E2
      have F3 := hid E3
      have F4 := hid E4
      clear E1 E2 E3 E4
      go_wp2_with (first | (go_at_call 22; refine (implWrdRel _ _ _ _).mono ?_; rintro e w' ⟨rfl, rfl⟩; try (first | rw [F1.out] | rw [F2.out] | rw [F3.out] | rw [F4.out])) | (go_at_call 23; refine (specWrdRel _ _ _ _).mono ?_; rintro e w' ⟨rfl, rfl⟩) | (go_at_call 20; refine (specWrdOk _ _).mono ?_; rintro e w' ⟨rfl, rfl⟩; first | rw [HA.out] | rw [HB.out]))
      go_ret
      exact ⟨rfl, hw1⟩
    · rw [show (a == a) = true by simp] at E1
      rw [decide_eq_false (by omega)] at E2
      have F1 := hid E1
      have F2 := hid E2
      clear E1 E2 E3 E4
      go_wp2_with (first | (go_at_call 22; refine (implWrdRel _ _ _ _).mono ?_; rintro e w' ⟨rfl, rfl⟩; try (first | rw [F1.out] | rw [F2.out])) | (go_at_call 23; refine (specWrdRel _ _ _ _).mono ?_; rintro e w' ⟨rfl, rfl⟩) | (go_at_call 20; refine (specWrdOk _ _).mono ?_; rintro e w' ⟨rfl, rfl⟩; rw [HA.out]))
      go_ret
      exact ⟨rfl, hw1⟩
    · rw [show (a == b) = false by rw [beq_eq_false_iff_ne]; omega] at E1
      rw [decide_eq_false (by omega)] at E2
      rw [decide_eq_true hlt] at E3
      rw [show (b == a) = false by rw [beq_eq_false_iff_ne]; omega] at E4
      have hab : (a == b) = false := by rw [beq_eq_false_iff_ne]; omega
      have F1 := hid E1
      have F2 := hid E2
      have F3 := hid E3
      have F4 := hid E4
      clear E1 E2 E3 E4
      go_wp2_with (first | (go_at_call 22; refine (implWrdRel _ _ _ _).mono ?_; rintro e w' ⟨rfl, rfl⟩; try (first | rw [F1.out] | rw [F2.out] | rw [F3.out] | rw [F4.out])) | (go_at_call 23; refine (specWrdRel _ _ _ _).mono ?_; rintro e w' ⟨rfl, rfl⟩) | (go_at_call 20; refine (specWrdOk _ _).mono ?_; rintro e w' ⟨rfl, rfl⟩; first | rw [HA.out] | rw [HB.out]))
      go_ret
      exact ⟨rfl, hw1⟩

set_option maxRecDepth 100000 in
theorem lifted (os : Os) (started : os.Started) (H : Type) (enc : TypeId × Value → H) :
    ReturnsInHanded {} Try.checked os 5 .any (Rows.fnWrdRelSpec.pre6 enc Try.prog Try.f5 Rows.fnWrdRelRow.domain false) (Rows.fnWrdRelSpec.post enc Try.prog Try.f5 false true false false) := by
  refine returnsInHanded_of_change (C := Try.checked) ownKnob_ started (by kernel_rfl) Try.func5
    (ChangeSpec.witness6 (enc := enc) (C := Try.checked) false ⟨#[], #[.slice none 0 0], []⟩ 8 (by kernel_rfl) (by kernel_rfl) (by kernel_rfl) (by kernel_rfl)) ?_
  intro W base args ds gs before hval0 hW hcnd _
  have hval : ∀ (j : Nat) t v, Try.f5.params[j]? = some t → args[j]? = some v → Value.okWide Try.prog W .any base t v := hval0
  have hW' := hW
  obtain ⟨p, q, hA0, hV, rfl, hfz, hnd⟩ := hW
  have hA : DataW.TrodAll enc Try.prog W 0 (fun _ => true) true Try.f5.params.toList args.toList ds p := hA0
  rw [Try.params5] at hA hval
  obtain ⟨v0, vs0, d0, ds0, p0, q0, hargs, rfl, rfl, g0, r0⟩ := trodAll_cons hA
  obtain ⟨rfl, rfl, rfl⟩ := trodAll_nil r0
  obtain rfl : args = #[v0] := by cases args; simp_all
  obtain ⟨rfl, rfl⟩ := trodVars_none hV
  have lt0 : ∀ x ∈ p0, x.block < W.heap.size := by obtain ⟨m, hm⟩ := g0; exact DataW.trod_lt m _ _ _ hm
  obtain ⟨A0, k0, bs0, e0, h0, s0⟩ := read_bytes (hval 0 24 v0 rfl rfl) g0
  subst e0
  clear hA0 hval0
  refine (walk A0 k0 bs0 W h0 s0).mono fun e W' ⟨he, bel⟩ => ?_
  subst he
  exact ⟨_, rfl, _, _, _, [], _, [], hW', trodAll_mk1 (shut_bool Try.underlying4 _), (trodAll_cons_mk (Below.trod laidOut_ (by kernel_rfl) (of_decide_eq_true (by kernel_rfl)) g0 bel.out lt0) trodAll_mk0), rfl, bel.out.frame _, fun h => by cases h⟩
theorem cf0 : (fun (P : Program) (f : FuncId) (fn : Func) (s : ChangeSpec) (c : OpenClaim) => (c.wf (OpenSpec.ofChange s) : Bool)) Try.prog 5 Try.f5 Rows.fnWrdRelSpec Rows.fnWrdRelRow = true := by kernel_rfl
theorem cf3 : (fun (P : Program) (f : FuncId) (fn : Func) (s : ChangeSpec) (c : OpenClaim) => (fn.params.all (P.readableRec ·) : Bool)) Try.prog 5 Try.f5 Rows.fnWrdRelSpec Rows.fnWrdRelRow = true := by kernel_rfl
theorem cf4 : (fun (P : Program) (f : FuncId) (fn : Func) (s : ChangeSpec) (c : OpenClaim) => (namedTie P c.named s.vars : Bool)) Try.prog 5 Try.f5 Rows.fnWrdRelSpec Rows.fnWrdRelRow = true := by kernel_rfl
theorem cf5 : (fun (P : Program) (f : FuncId) (fn : Func) (s : ChangeSpec) (c : OpenClaim) => ((c.stops == []) : Bool)) Try.prog 5 Try.f5 Rows.fnWrdRelSpec Rows.fnWrdRelRow = true := by kernel_rfl
theorem cf7 : (fun (P : Program) (f : FuncId) (fn : Func) (s : ChangeSpec) (c : OpenClaim) => ((c.knobs == []) : Bool)) Try.prog 5 Try.f5 Rows.fnWrdRelSpec Rows.fnWrdRelRow = true := by kernel_rfl
theorem cf9 : (fun (P : Program) (f : FuncId) (fn : Func) (s : ChangeSpec) (c : OpenClaim) => ((c.inPlace == P.inPlace f) : Bool)) Try.prog 5 Try.f5 Rows.fnWrdRelSpec Rows.fnWrdRelRow = true := by kernel_rfl
theorem cf10 : (fun (P : Program) (f : FuncId) (fn : Func) (s : ChangeSpec) (c : OpenClaim) => ((c.unfollowed == P.unfollowed f) : Bool)) Try.prog 5 Try.f5 Rows.fnWrdRelSpec Rows.fnWrdRelRow = true := by kernel_rfl
theorem cf11 : (fun (P : Program) (f : FuncId) (fn : Func) (s : ChangeSpec) (c : OpenClaim) => ((c.recurses == P.recurses f) : Bool)) Try.prog 5 Try.f5 Rows.fnWrdRelSpec Rows.fnWrdRelRow = true := by kernel_rfl
theorem cf12 : (fun (P : Program) (f : FuncId) (fn : Func) (s : ChangeSpec) (c : OpenClaim) => ((c.named == P.varsNamed f) : Bool)) Try.prog 5 Try.f5 Rows.fnWrdRelSpec Rows.fnWrdRelRow = true := by kernel_rfl
theorem cf13 : (fun (P : Program) (f : FuncId) (fn : Func) (s : ChangeSpec) (c : OpenClaim) => ((c.maps == (fn.params.toList ++ s.plain.varTypes P).any (P.mapsRec ·)) : Bool)) Try.prog 5 Try.f5 Rows.fnWrdRelSpec Rows.fnWrdRelRow = true := by kernel_rfl
theorem cf14 : (fun (P : Program) (f : FuncId) (fn : Func) (s : ChangeSpec) (c : OpenClaim) => ((c.ifaces == (fn.params.toList ++ s.plain.varTypes P).any (P.ifacesRec ·)) : Bool)) Try.prog 5 Try.f5 Rows.fnWrdRelSpec Rows.fnWrdRelRow = true := by kernel_rfl
theorem cf15 : (fun (P : Program) (f : FuncId) (fn : Func) (s : ChangeSpec) (c : OpenClaim) => ((c.mapsOut == P.mapsAmong fn.resultTypes.toList) : Bool)) Try.prog 5 Try.f5 Rows.fnWrdRelSpec Rows.fnWrdRelRow = true := by kernel_rfl
theorem cf16 : (fun (P : Program) (f : FuncId) (fn : Func) (s : ChangeSpec) (c : OpenClaim) => ((c.loops == (fn.params.toList ++ s.plain.varTypes P).any (P.loopsFrom ·)) : Bool)) Try.prog 5 Try.f5 Rows.fnWrdRelSpec Rows.fnWrdRelRow = true := by kernel_rfl
theorem cf17 : (fun (P : Program) (f : FuncId) (fn : Func) (s : ChangeSpec) (c : OpenClaim) => ((c.wideKeys == (fn.params.toList ++ s.plain.varTypes P ++ fn.resultTypes.toList).any (P.wideKeysFrom ·)) : Bool)) Try.prog 5 Try.f5 Rows.fnWrdRelSpec Rows.fnWrdRelRow = true := by kernel_rfl
theorem cf18 : (fun (P : Program) (f : FuncId) (fn : Func) (s : ChangeSpec) (c : OpenClaim) => (s.vars.all (P.varReadable ·) : Bool)) Try.prog 5 Try.f5 Rows.fnWrdRelSpec Rows.fnWrdRelRow = true := by kernel_rfl
theorem cf19 : (fun (P : Program) (f : FuncId) (fn : Func) (s : ChangeSpec) (c : OpenClaim) => (fn.resultTypes.all (fun t => P.readableRec t && decide (t < P.types.size)) : Bool)) Try.prog 5 Try.f5 Rows.fnWrdRelSpec Rows.fnWrdRelRow = true := by kernel_rfl
theorem cf20 : (fun (P : Program) (f : FuncId) (fn : Func) (s : ChangeSpec) (c : OpenClaim) => ((c.ifacesOut == fn.resultTypes.toList.any (P.ifacesRec ·)) : Bool)) Try.prog 5 Try.f5 Rows.fnWrdRelSpec Rows.fnWrdRelRow = true := by kernel_rfl
theorem cf21 : (fun (P : Program) (f : FuncId) (fn : Func) (s : ChangeSpec) (c : OpenClaim) => ((c.loopsOut == fn.resultTypes.toList.any (P.loopsFrom ·)) : Bool)) Try.prog 5 Try.f5 Rows.fnWrdRelSpec Rows.fnWrdRelRow = true := by kernel_rfl
theorem cf23 : (fun (P : Program) (f : FuncId) (fn : Func) (s : ChangeSpec) (c : OpenClaim) => (c.shortTexts.isNone : Bool)) Try.prog 5 Try.f5 Rows.fnWrdRelSpec Rows.fnWrdRelRow = true := by kernel_rfl
theorem cf28 : (fun (P : Program) (f : FuncId) (fn : Func) (s : ChangeSpec) (c : OpenClaim) => ((c.kinds == (if c.domain.isEmpty then [] else fn.params.toList.map fun t => match P.underlying t with | some (.int k) => some k | _ => none)) : Bool)) Try.prog 5 Try.f5 Rows.fnWrdRelSpec Rows.fnWrdRelRow = true := by kernel_rfl
theorem cf29 : (fun (P : Program) (f : FuncId) (fn : Func) (s : ChangeSpec) (c : OpenClaim) => ((c.pinned == c.pinnedBy) : Bool)) Try.prog 5 Try.f5 Rows.fnWrdRelSpec Rows.fnWrdRelRow = true := by kernel_rfl
theorem cf30 : (fun (P : Program) (f : FuncId) (fn : Func) (s : ChangeSpec) (c : OpenClaim) => ((c.veiled == (fn.params.toList ++ s.plain.varTypes P ++ fn.resultTypes.toList).any (P.veiledRec ·)) : Bool)) Try.prog 5 Try.f5 Rows.fnWrdRelSpec Rows.fnWrdRelRow = true := by kernel_rfl
theorem cf31 : (fun (P : Program) (f : FuncId) (fn : Func) (s : ChangeSpec) (c : OpenClaim) => (c.veiledFits P fn.params.toList (fn.params.toList ++ s.plain.varTypes P ++ fn.resultTypes.toList) : Bool)) Try.prog 5 Try.f5 Rows.fnWrdRelSpec Rows.fnWrdRelRow = true := by kernel_rfl

set_option maxRecDepth 100000 in
theorem closed : joinedFacts Try.prog 5 Try.f5 Rows.fnWrdRelSpec Rows.fnWrdRelRow = true := by
  unfold joinedFacts
  exact (band (band (band (band (band (band (band (band (band (band (band (band (band (band (band (band (band (band (band (band (band (band (band (band (band (band (band (band (band (band (band cf0 pf1) pf2) cf3) cf4) cf5) pf6) cf7) pf8) cf9) cf10) cf11) cf12) cf13) cf14) cf15) cf16) cf17) cf18) cf19) cf20) cf21) pf22) cf23) pf24) pf25) pf26) pf27) cf28) cf29) cf30) cf31)
theorem inst : Try.f5.isInstance Try.prog Rows.fnWrdRelRow.origin Rows.fnWrdRelRow.targs := of_decide_eq_true (by kernel_rfl)
theorem wrap_ : Try.f5.isWrapper Try.prog Rows.fnWrdRelRow.wrapper Rows.fnWrdRelRow.mainSum := by
  unfold Func.isWrapper
  rw [if_neg (by decide +kernel)]
  exact ⟨rfl, rfl⟩

theorem over : Rows.fnWrdRelRow.holds Try.pinned (OpenSpec.ofChange Rows.fnWrdRelSpec) :=
  OpenClaim.holds_of_wide 5 Try.f5 rfl rfl rfl rfl rfl rfl rfl ⟨rfl, rfl, rfl, rfl, rfl⟩ rfl rfl rfl rfl rfl (by as_aux_lemma => kernel_rfl) Try.func5 closed inst wrap_
    (fun os started H enc _ => lifted os started H enc)

theorem proved : Rows.FnWrdRelSaid := over
#print axioms proved
end Go.Proofs.Ytabbjnamlkphmaa.fnWrdRel
