/- The law FnWrdDo: of words sums and differences undo each other, a product is spread over a sum, what is taken by OpXor twice is gone, and OpAnd of both, twice, with OpXor is the sum. Conditions: none. -/
import Derived.Test.YtabbjnamlkphmaaRows
import Derived.WalkKit
import Derived.ProofKit
import Derived.OpenShut
import Derived.ShutString
import Derived.ChangeOld
import Derived.Below
import Derived.Carry
import Derived.Test.YtabbjnamlkphmaaF
import Derived.Test.YtabbjnamlkphmaaK
import Derived.Test.YtabbjnamlkphmaaJ
import Derived.Test.YtabbjnamlkphmaaB
namespace Go.Proofs.Ytabbjnamlkphmaa.fnWrdDo
open Go.ChangeShapes Go.WideShapes Go.ChangeAt Go.RowKit
set_option linter.unusedVariables false
set_option linter.unusedSimpArgs false

theorem walk (A0 : Option Addr) (k0 : Nat) (bs0 : List Int) (A1 : Option Addr) (k1 : Nat) (bs1 : List Int) (w : World) (h0 : AB w A0 bs0) (s0 : bs0.length ≤ 9223372036854775807 ∧ bs0.length ≤ k0) (h1 : AB w A1 bs1) (s1 : bs1.length ≤ 9223372036854775807 ∧ bs1.length ≤ k1) :
    Calls Try.prog 7 #[.slice A0 bs0.length k0, .slice A1 bs1.length k1] w fun e w' => e = .returned (.bool true) ∧ Ext w w' := by
  by_cases hz : (1048576 : Int) < bs0.length
  · go_enter Try.func7, Try.ntmps7
    go_wp2
    go_ret
    exact ⟨rfl, (by repeat (first | with_reducible assumption | with_reducible exact Ext.refl _ | with_reducible apply Ext.drewN | with_reducible apply Ext.drew | with_reducible apply Ext.alloc | with_reducible refine Ext.set ?_ (by first | (simp; done) | (simp; omega)) _ | with_reducible refine Ext.next ?_ (by with_reducible assumption)))⟩
  by_cases hz' : (1048576 : Int) < bs1.length
  · go_enter Try.func7, Try.ntmps7
    go_wp2
    go_ret
    exact ⟨rfl, (by repeat (first | with_reducible assumption | with_reducible exact Ext.refl _ | with_reducible apply Ext.drewN | with_reducible apply Ext.drew | with_reducible apply Ext.alloc | with_reducible refine Ext.set ?_ (by first | (simp; done) | (simp; omega)) _ | with_reducible refine Ext.next ?_ (by with_reducible assumption)))⟩
  go_enter Try.func7, Try.ntmps7
  go_wp2_with fail
  refine (drawDo _ _ _ _ h0 s0.1 s0.2).mono ?_
  rintro e w1 ⟨o, a, b, rfl, hw1⟩
  go_wp2_with fail
  refine (drawWrap _ _ _ _ (h1.ext hw1) s1.1 s1.2).mono ?_
  rintro e w2 ⟨c0, rfl, hw2⟩
  have hw := hw1.next hw2
  have hc := wrdOk_wrap c0
  have HN := hid (wrdOk_do o a b)
  cases hok : wrdOk a && wrdOk b
  · have E0 := hid (wrdDo_no o hok)
    cases ha : wrdOk a
    · clear hok
      have HA := hid ha
      clear ha
      go_wp2_with (first | (go_at_call 15; refine (implWrdDo _ _ _ _).mono ?_; rintro e w' ⟨rfl, rfl⟩; rw [E0.out]) | (go_at_call 14; refine (specWrdDo _ _ _ _).mono ?_; rintro e w' ⟨rfl, rfl⟩; rw [E0.out]) | (go_at_call 18; refine (specWrdWrap _ _).mono ?_; rintro e w' ⟨rfl, rfl⟩) | (go_at_call 20; refine (specWrdOk _ _).mono ?_; rintro e w' ⟨rfl, rfl⟩; rw [HA.out]) | (go_at_call 24; refine (laOk_ _).mono ?_; rintro e w' ⟨rfl, rfl⟩))
      go_ret
      exact ⟨rfl, hw⟩
    · have HB : Hid (wrdOk b = false) := hid (by rw [ha] at hok; exact hok)
      clear hok
      have HA := hid ha
      clear ha
      go_wp2_with (first | (go_at_call 15; refine (implWrdDo _ _ _ _).mono ?_; rintro e w' ⟨rfl, rfl⟩; rw [E0.out]) | (go_at_call 14; refine (specWrdDo _ _ _ _).mono ?_; rintro e w' ⟨rfl, rfl⟩; rw [E0.out]) | (go_at_call 18; refine (specWrdWrap _ _).mono ?_; rintro e w' ⟨rfl, rfl⟩) | (go_at_call 20; refine (specWrdOk _ _).mono ?_; rintro e w' ⟨rfl, rfl⟩; first | rw [HA.out] | rw [HB.out]) | (go_at_call 24; refine (laOk_ _).mono ?_; rintro e w' ⟨rfl, rfl⟩))
      go_ret
      exact ⟨rfl, hw⟩
  · rw [Bool.and_eq_true] at hok
    obtain ⟨ha, hb⟩ := hok
    obtain ⟨l1, l2, l3, l4⟩ := do_law ha hb hc
    have L1 := hid l1
    have L2 := hid l2
    have L3 := hid l3
    have L4 := hid l4
    clear l1 l2 l3 l4
    have HA := hid ha
    have HB := hid hb
    clear ha hb hc
    go_wp2_with (first | (go_at_call 15; refine (implWrdDo _ _ _ _).mono ?_; rintro e w' ⟨rfl, rfl⟩; try (first | rw [L1.out] | rw [L2.out] | rw [L3.out] | rw [L4.out])) | (go_at_call 14; refine (specWrdDo _ _ _ _).mono ?_; rintro e w' ⟨rfl, rfl⟩) | (go_at_call 18; refine (specWrdWrap _ _).mono ?_; rintro e w' ⟨rfl, rfl⟩) | (go_at_call 19; refine (implWrdOk _ _).mono ?_; rintro e w' ⟨rfl, rfl⟩; rw [HN.out]) | (go_at_call 20; refine (specWrdOk _ _).mono ?_; rintro e w' ⟨rfl, rfl⟩; first | rw [HA.out] | rw [HB.out]))
    go_ret
    exact ⟨rfl, hw⟩

set_option maxRecDepth 100000 in
theorem lifted (os : Os) (started : os.Started) (H : Type) (enc : TypeId × Value → H) :
    ReturnsInHanded {} Try.checked os 7 .any (Rows.fnWrdDoSpec.pre6 enc Try.prog Try.f7 Rows.fnWrdDoRow.domain false) (Rows.fnWrdDoSpec.post enc Try.prog Try.f7 false true false false) := by
  refine returnsInHanded_of_change (C := Try.checked) ownKnob_ started (by kernel_rfl) Try.func7
    (ChangeSpec.witness6 (enc := enc) (C := Try.checked) false ⟨#[], #[.slice none 0 0, .slice none 0 0], []⟩ 8 (by kernel_rfl) (by kernel_rfl) (by kernel_rfl) (by kernel_rfl)) ?_
  intro W base args ds gs before hval0 hW hcnd _
  have hval : ∀ (j : Nat) t v, Try.f7.params[j]? = some t → args[j]? = some v → Value.okWide Try.prog W .any base t v := hval0
  have hW' := hW
  obtain ⟨p, q, hA0, hV, rfl, hfz, hnd⟩ := hW
  have hA : DataW.TrodAll enc Try.prog W 0 (fun _ => true) true Try.f7.params.toList args.toList ds p := hA0
  rw [Try.params7] at hA hval
  obtain ⟨v0, vs0, d0, ds0, p0, q0, hargs, rfl, rfl, g0, r0⟩ := trodAll_cons hA
  obtain ⟨v1, vs1, d1, ds1, p1, q1, rfl, rfl, rfl, g1, r1⟩ := trodAll_cons r0
  obtain ⟨rfl, rfl, rfl⟩ := trodAll_nil r1
  obtain rfl : args = #[v0, v1] := by cases args; simp_all
  obtain ⟨rfl, rfl⟩ := trodVars_none hV
  have lt0 : ∀ x ∈ p0, x.block < W.heap.size := by obtain ⟨m, hm⟩ := g0; exact DataW.trod_lt m _ _ _ hm
  obtain ⟨A0, k0, bs0, e0, h0, s0⟩ := read_bytes (hval 0 24 v0 rfl rfl) g0
  subst e0
  have lt1 : ∀ x ∈ p1, x.block < W.heap.size := by obtain ⟨m, hm⟩ := g1; exact DataW.trod_lt m _ _ _ hm
  obtain ⟨A1, k1, bs1, e1, h1, s1⟩ := read_bytes (hval 1 24 v1 rfl rfl) g1
  subst e1
  clear hA0 hval0
  refine (walk A0 k0 bs0 A1 k1 bs1 W h0 s0 h1 s1).mono fun e W' ⟨he, bel⟩ => ?_
  subst he
  exact ⟨_, rfl, _, _, _, [], _, [], hW', trodAll_mk1 (shut_bool Try.underlying4 _), (trodAll_cons_mk (Below.trod laidOut_ (by kernel_rfl) (of_decide_eq_true (by kernel_rfl)) g0 bel.out lt0) (trodAll_cons_mk (Below.trod laidOut_ (by kernel_rfl) (of_decide_eq_true (by kernel_rfl)) g1 bel.out lt1) trodAll_mk0)), rfl, bel.out.frame _, fun h => by cases h⟩
theorem cf0 : (fun (P : Program) (f : FuncId) (fn : Func) (s : ChangeSpec) (c : OpenClaim) => (c.wf (OpenSpec.ofChange s) : Bool)) Try.prog 7 Try.f7 Rows.fnWrdDoSpec Rows.fnWrdDoRow = true := by kernel_rfl
theorem cf3 : (fun (P : Program) (f : FuncId) (fn : Func) (s : ChangeSpec) (c : OpenClaim) => (fn.params.all (P.readableRec ·) : Bool)) Try.prog 7 Try.f7 Rows.fnWrdDoSpec Rows.fnWrdDoRow = true := by kernel_rfl
theorem cf4 : (fun (P : Program) (f : FuncId) (fn : Func) (s : ChangeSpec) (c : OpenClaim) => (namedTie P c.named s.vars : Bool)) Try.prog 7 Try.f7 Rows.fnWrdDoSpec Rows.fnWrdDoRow = true := by kernel_rfl
theorem cf5 : (fun (P : Program) (f : FuncId) (fn : Func) (s : ChangeSpec) (c : OpenClaim) => ((c.stops == []) : Bool)) Try.prog 7 Try.f7 Rows.fnWrdDoSpec Rows.fnWrdDoRow = true := by kernel_rfl
theorem cf7 : (fun (P : Program) (f : FuncId) (fn : Func) (s : ChangeSpec) (c : OpenClaim) => ((c.knobs == []) : Bool)) Try.prog 7 Try.f7 Rows.fnWrdDoSpec Rows.fnWrdDoRow = true := by kernel_rfl
theorem cf9 : (fun (P : Program) (f : FuncId) (fn : Func) (s : ChangeSpec) (c : OpenClaim) => ((c.inPlace == P.inPlace f) : Bool)) Try.prog 7 Try.f7 Rows.fnWrdDoSpec Rows.fnWrdDoRow = true := by kernel_rfl
theorem cf10 : (fun (P : Program) (f : FuncId) (fn : Func) (s : ChangeSpec) (c : OpenClaim) => ((c.unfollowed == P.unfollowed f) : Bool)) Try.prog 7 Try.f7 Rows.fnWrdDoSpec Rows.fnWrdDoRow = true := by kernel_rfl
theorem cf11 : (fun (P : Program) (f : FuncId) (fn : Func) (s : ChangeSpec) (c : OpenClaim) => ((c.recurses == P.recurses f) : Bool)) Try.prog 7 Try.f7 Rows.fnWrdDoSpec Rows.fnWrdDoRow = true := by kernel_rfl
theorem cf12 : (fun (P : Program) (f : FuncId) (fn : Func) (s : ChangeSpec) (c : OpenClaim) => ((c.named == P.varsNamed f) : Bool)) Try.prog 7 Try.f7 Rows.fnWrdDoSpec Rows.fnWrdDoRow = true := by kernel_rfl
theorem cf13 : (fun (P : Program) (f : FuncId) (fn : Func) (s : ChangeSpec) (c : OpenClaim) => ((c.maps == (fn.params.toList ++ s.plain.varTypes P).any (P.mapsRec ·)) : Bool)) Try.prog 7 Try.f7 Rows.fnWrdDoSpec Rows.fnWrdDoRow = true := by kernel_rfl
theorem cf14 : (fun (P : Program) (f : FuncId) (fn : Func) (s : ChangeSpec) (c : OpenClaim) => ((c.ifaces == (fn.params.toList ++ s.plain.varTypes P).any (P.ifacesRec ·)) : Bool)) Try.prog 7 Try.f7 Rows.fnWrdDoSpec Rows.fnWrdDoRow = true := by kernel_rfl
theorem cf15 : (fun (P : Program) (f : FuncId) (fn : Func) (s : ChangeSpec) (c : OpenClaim) => ((c.mapsOut == P.mapsAmong fn.resultTypes.toList) : Bool)) Try.prog 7 Try.f7 Rows.fnWrdDoSpec Rows.fnWrdDoRow = true := by kernel_rfl
theorem cf16 : (fun (P : Program) (f : FuncId) (fn : Func) (s : ChangeSpec) (c : OpenClaim) => ((c.loops == (fn.params.toList ++ s.plain.varTypes P).any (P.loopsFrom ·)) : Bool)) Try.prog 7 Try.f7 Rows.fnWrdDoSpec Rows.fnWrdDoRow = true := by kernel_rfl
theorem cf17 : (fun (P : Program) (f : FuncId) (fn : Func) (s : ChangeSpec) (c : OpenClaim) => ((c.wideKeys == (fn.params.toList ++ s.plain.varTypes P ++ fn.resultTypes.toList).any (P.wideKeysFrom ·)) : Bool)) Try.prog 7 Try.f7 Rows.fnWrdDoSpec Rows.fnWrdDoRow = true := by kernel_rfl
theorem cf18 : (fun (P : Program) (f : FuncId) (fn : Func) (s : ChangeSpec) (c : OpenClaim) => (s.vars.all (P.varReadable ·) : Bool)) Try.prog 7 Try.f7 Rows.fnWrdDoSpec Rows.fnWrdDoRow = true := by kernel_rfl
theorem cf19 : (fun (P : Program) (f : FuncId) (fn : Func) (s : ChangeSpec) (c : OpenClaim) => (fn.resultTypes.all (fun t => P.readableRec t && decide (t < P.types.size)) : Bool)) Try.prog 7 Try.f7 Rows.fnWrdDoSpec Rows.fnWrdDoRow = true := by kernel_rfl
theorem cf20 : (fun (P : Program) (f : FuncId) (fn : Func) (s : ChangeSpec) (c : OpenClaim) => ((c.ifacesOut == fn.resultTypes.toList.any (P.ifacesRec ·)) : Bool)) Try.prog 7 Try.f7 Rows.fnWrdDoSpec Rows.fnWrdDoRow = true := by kernel_rfl
theorem cf21 : (fun (P : Program) (f : FuncId) (fn : Func) (s : ChangeSpec) (c : OpenClaim) => ((c.loopsOut == fn.resultTypes.toList.any (P.loopsFrom ·)) : Bool)) Try.prog 7 Try.f7 Rows.fnWrdDoSpec Rows.fnWrdDoRow = true := by kernel_rfl
theorem cf23 : (fun (P : Program) (f : FuncId) (fn : Func) (s : ChangeSpec) (c : OpenClaim) => (c.shortTexts.isNone : Bool)) Try.prog 7 Try.f7 Rows.fnWrdDoSpec Rows.fnWrdDoRow = true := by kernel_rfl
theorem cf28 : (fun (P : Program) (f : FuncId) (fn : Func) (s : ChangeSpec) (c : OpenClaim) => ((c.kinds == (if c.domain.isEmpty then [] else fn.params.toList.map fun t => match P.underlying t with | some (.int k) => some k | _ => none)) : Bool)) Try.prog 7 Try.f7 Rows.fnWrdDoSpec Rows.fnWrdDoRow = true := by kernel_rfl
theorem cf29 : (fun (P : Program) (f : FuncId) (fn : Func) (s : ChangeSpec) (c : OpenClaim) => ((c.pinned == c.pinnedBy) : Bool)) Try.prog 7 Try.f7 Rows.fnWrdDoSpec Rows.fnWrdDoRow = true := by kernel_rfl
theorem cf30 : (fun (P : Program) (f : FuncId) (fn : Func) (s : ChangeSpec) (c : OpenClaim) => ((c.veiled == (fn.params.toList ++ s.plain.varTypes P ++ fn.resultTypes.toList).any (P.veiledRec ·)) : Bool)) Try.prog 7 Try.f7 Rows.fnWrdDoSpec Rows.fnWrdDoRow = true := by kernel_rfl
theorem cf31 : (fun (P : Program) (f : FuncId) (fn : Func) (s : ChangeSpec) (c : OpenClaim) => (c.veiledFits P fn.params.toList (fn.params.toList ++ s.plain.varTypes P ++ fn.resultTypes.toList) : Bool)) Try.prog 7 Try.f7 Rows.fnWrdDoSpec Rows.fnWrdDoRow = true := by kernel_rfl

set_option maxRecDepth 100000 in
theorem closed : joinedFacts Try.prog 7 Try.f7 Rows.fnWrdDoSpec Rows.fnWrdDoRow = true := by
  unfold joinedFacts
  exact (band (band (band (band (band (band (band (band (band (band (band (band (band (band (band (band (band (band (band (band (band (band (band (band (band (band (band (band (band (band (band cf0 pf1) pf2) cf3) cf4) cf5) pf6) cf7) pf8) cf9) cf10) cf11) cf12) cf13) cf14) cf15) cf16) cf17) cf18) cf19) cf20) cf21) pf22) cf23) pf24) pf25) pf26) pf27) cf28) cf29) cf30) cf31)
theorem inst : Try.f7.isInstance Try.prog Rows.fnWrdDoRow.origin Rows.fnWrdDoRow.targs := of_decide_eq_true (by kernel_rfl)
theorem wrap_ : Try.f7.isWrapper Try.prog Rows.fnWrdDoRow.wrapper Rows.fnWrdDoRow.mainSum := by
  unfold Func.isWrapper
  rw [if_neg (by decide +kernel)]
  exact ⟨rfl, rfl⟩

theorem over : Rows.fnWrdDoRow.holds Try.pinned (OpenSpec.ofChange Rows.fnWrdDoSpec) :=
  OpenClaim.holds_of_wide 7 Try.f7 rfl rfl rfl rfl rfl rfl rfl ⟨rfl, rfl, rfl, rfl, rfl⟩ rfl rfl rfl rfl rfl (by as_aux_lemma => kernel_rfl) Try.func7 closed inst wrap_
    (fun os started H enc _ => lifted os started H enc)

theorem proved : Rows.FnWrdDoSaid := over
#print axioms proved
end Go.Proofs.Ytabbjnamlkphmaa.fnWrdDo
