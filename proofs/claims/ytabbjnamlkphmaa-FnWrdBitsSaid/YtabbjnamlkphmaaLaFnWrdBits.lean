/- The law FnWrdBits: of two words OpAnd is no more than each, OpXor no more than both together; OpAnd, OpXor, OpMul and OpAdd are the same both ways. Conditions: none. -/
import Derived.Test.YtabbjnamlkphmaaRows
import Derived.WalkKit
import Derived.ProofKit
import Derived.OpenShut
import Derived.ShutString
import Derived.ChangeOld
import Derived.Below
import Derived.Carry
import Derived.Test.YtabbjnamlkphmaaF
import Derived.Test.YtabbjnamlkphmaaK
import Derived.Test.YtabbjnamlkphmaaJ
import Derived.Test.YtabbjnamlkphmaaB
namespace Go.Proofs.Ytabbjnamlkphmaa.fnWrdBits
open Go.ChangeShapes Go.WideShapes Go.ChangeAt Go.RowKit
set_option linter.unusedVariables false
set_option linter.unusedSimpArgs false

theorem walk (A0 : Option Addr) (k0 : Nat) (bs0 : List Int) (w : World) (h0 : AB w A0 bs0) (s0 : bs0.length ≤ 9223372036854775807 ∧ bs0.length ≤ k0) :
    Calls Try.prog 6 #[.slice A0 bs0.length k0] w fun e w' => e = .returned (.bool true) ∧ Ext w w' := by
  by_cases hz : (1048576 : Int) < bs0.length
  · go_enter Try.func6, Try.ntmps6
    go_wp2
    go_ret
    exact ⟨rfl, (by repeat (first | with_reducible assumption | with_reducible exact Ext.refl _ | with_reducible apply Ext.drewN | with_reducible apply Ext.drew | with_reducible apply Ext.alloc | with_reducible refine Ext.set ?_ (by first | (simp; done) | (simp; omega)) _ | with_reducible refine Ext.next ?_ (by with_reducible assumption)))⟩
  go_enter Try.func6, Try.ntmps6
  go_wp2_with fail
  refine (drawDo _ _ _ _ h0 s0.1 s0.2).mono ?_
  rintro e w1 ⟨o, a, b, rfl, hw1⟩
  cases hok : wrdOk a && wrdOk b
  · have E4 := hid (wrdDo_no 4 hok)
    have E5 := hid (wrdDo_no 5 hok)
    cases ha : wrdOk a
    · clear hok
      have HA := hid ha
      clear ha
      go_wp2_with (first | (go_at_call 15; refine (implWrdDo _ _ _ _).mono ?_; rintro e w' ⟨rfl, rfl⟩; first | rw [E4.out] | rw [E5.out]) | (go_at_call 14; refine (specWrdDo _ _ _ _).mono ?_; rintro e w' ⟨rfl, rfl⟩; first | rw [E4.out] | rw [E5.out]) | (go_at_call 20; refine (specWrdOk _ _).mono ?_; rintro e w' ⟨rfl, rfl⟩; rw [HA.out]) | (go_at_call 24; refine (laOk_ _).mono ?_; rintro e w' ⟨rfl, rfl⟩))
      go_ret
      exact ⟨rfl, hw1⟩
    · have HB : Hid (wrdOk b = false) := hid (by rw [ha] at hok; exact hok)
      clear hok
      have HA := hid ha
      clear ha
      go_wp2_with (first | (go_at_call 15; refine (implWrdDo _ _ _ _).mono ?_; rintro e w' ⟨rfl, rfl⟩; first | rw [E4.out] | rw [E5.out]) | (go_at_call 14; refine (specWrdDo _ _ _ _).mono ?_; rintro e w' ⟨rfl, rfl⟩; first | rw [E4.out] | rw [E5.out]) | (go_at_call 20; refine (specWrdOk _ _).mono ?_; rintro e w' ⟨rfl, rfl⟩; first | rw [HA.out] | rw [HB.out]) | (go_at_call 24; refine (laOk_ _).mono ?_; rintro e w' ⟨rfl, rfl⟩))
      go_ret
      exact ⟨rfl, hw1⟩
  · rw [Bool.and_eq_true] at hok
    obtain ⟨ha, hb⟩ := hok
    obtain ⟨l1, l2, l3, l4, l5, l6⟩ := bits_law ha hb
    have ba : 0 ≤ a ∧ a < 65536 := by simpa [wrdOk] using ha
    have bb : 0 ≤ b ∧ b < 65536 := by simpa [wrdOk] using hb
    obtain ⟨ba0, ba1⟩ := ba
    obtain ⟨bb0, bb1⟩ := bb
    have HA := hid ha
    have HB := hid hb
    clear ha hb
    obtain ⟨x4, hx4⟩ : ∃ x, x = wrdDo 4 a b := ⟨_, rfl⟩
    obtain ⟨x5, hx5⟩ : ∃ x, x = wrdDo 5 a b := ⟨_, rfl⟩
    rw [← hx4] at l1 l2 l4 l5
    rw [← hx5] at l3 l4 l6
    have E4 := hid hx4
    have E5 := hid hx5
    clear hx4 hx5
    go_wp2_with (first | (go_at_call 15; refine (implWrdDo _ _ _ _).mono ?_; rintro e w' ⟨rfl, rfl⟩; first | rw [← E4.out] | rw [← E5.out]) | (go_at_call 14; refine (specWrdDo _ _ _ _).mono ?_; rintro e w' ⟨rfl, rfl⟩; first | rw [← E4.out] | rw [← E5.out]) | (go_at_call 20; refine (specWrdOk _ _).mono ?_; rintro e w' ⟨rfl, rfl⟩; first | rw [HA.out] | rw [HB.out]))
    go_loop [8] (fun i => ∃ j : Nat, 1 ≤ j ∧ j ≤ 6 ∧ i = .int .i64 j) (fun i => 6 - (intOf i).toNat)
    case atStart => exact ⟨1, by omega, by omega, rfl⟩
    case round =>
      obtain ⟨j, hj1, hj2, rfl⟩ := hrel
      by_cases h6 : j = 6
      · subst h6
        go_wp2
        go_ret
        exact ⟨rfl, hw1⟩
      by_cases h2 : j = 2
      · subst h2
        go_wp2
        go_round
        case rel => exact ⟨3, by omega, by omega, by go_num⟩
        case measure => simp [intOf]
      · have hne : (((j : Nat) : Int) != 2) = true := by rw [bne_iff_ne]; omega
        have E := hid (wrdDo_comm (op := (j : Int)) (a := b) (b := a) (by omega))
        go_wp2_with (go_at_call 15; refine (implWrdDo _ _ _ _).mono ?_; rintro e w' ⟨rfl, rfl⟩; try rw [E.out])
        go_round
        case rel => exact ⟨j + 1, by omega, by omega, by go_num⟩
        case measure => simp [intOf]; omega

set_option maxRecDepth 100000 in
theorem lifted (os : Os) (started : os.Started) (H : Type) (enc : TypeId × Value → H) :
    ReturnsInHanded {} Try.checked os 6 .any (Rows.fnWrdBitsSpec.pre6 enc Try.prog Try.f6 Rows.fnWrdBitsRow.domain false) (Rows.fnWrdBitsSpec.post enc Try.prog Try.f6 false true false false) := by
  refine returnsInHanded_of_change (C := Try.checked) ownKnob_ started (by kernel_rfl) Try.func6
    (ChangeSpec.witness6 (enc := enc) (C := Try.checked) false ⟨#[], #[.slice none 0 0], []⟩ 8 (by kernel_rfl) (by kernel_rfl) (by kernel_rfl) (by kernel_rfl)) ?_
  intro W base args ds gs before hval0 hW hcnd _
  have hval : ∀ (j : Nat) t v, Try.f6.params[j]? = some t → args[j]? = some v → Value.okWide Try.prog W .any base t v := hval0
  have hW' := hW
  obtain ⟨p, q, hA0, hV, rfl, hfz, hnd⟩ := hW
  have hA : DataW.TrodAll enc Try.prog W 0 (fun _ => true) true Try.f6.params.toList args.toList ds p := hA0
  rw [Try.params6] at hA hval
  obtain ⟨v0, vs0, d0, ds0, p0, q0, hargs, rfl, rfl, g0, r0⟩ := trodAll_cons hA
  obtain ⟨rfl, rfl, rfl⟩ := trodAll_nil r0
  obtain rfl : args = #[v0] := by cases args; simp_all
  obtain ⟨rfl, rfl⟩ := trodVars_none hV
  have lt0 : ∀ x ∈ p0, x.block < W.heap.size := by obtain ⟨m, hm⟩ := g0; exact DataW.trod_lt m _ _ _ hm
  obtain ⟨A0, k0, bs0, e0, h0, s0⟩ := read_bytes (hval 0 24 v0 rfl rfl) g0
  subst e0
  clear hA0 hval0
  refine (walk A0 k0 bs0 W h0 s0).mono fun e W' ⟨he, bel⟩ => ?_
  subst he
  exact ⟨_, rfl, _, _, _, [], _, [], hW', trodAll_mk1 (shut_bool Try.underlying4 _), (trodAll_cons_mk (Below.trod laidOut_ (by kernel_rfl) (of_decide_eq_true (by kernel_rfl)) g0 bel.out lt0) trodAll_mk0), rfl, bel.out.frame _, fun h => by cases h⟩
theorem cf0 : (fun (P : Program) (f : FuncId) (fn : Func) (s : ChangeSpec) (c : OpenClaim) => (c.wf (OpenSpec.ofChange s) : Bool)) Try.prog 6 Try.f6 Rows.fnWrdBitsSpec Rows.fnWrdBitsRow = true := by kernel_rfl
theorem cf3 : (fun (P : Program) (f : FuncId) (fn : Func) (s : ChangeSpec) (c : OpenClaim) => (fn.params.all (P.readableRec ·) : Bool)) Try.prog 6 Try.f6 Rows.fnWrdBitsSpec Rows.fnWrdBitsRow = true := by kernel_rfl
theorem cf4 : (fun (P : Program) (f : FuncId) (fn : Func) (s : ChangeSpec) (c : OpenClaim) => (namedTie P c.named s.vars : Bool)) Try.prog 6 Try.f6 Rows.fnWrdBitsSpec Rows.fnWrdBitsRow = true := by kernel_rfl
theorem cf5 : (fun (P : Program) (f : FuncId) (fn : Func) (s : ChangeSpec) (c : OpenClaim) => ((c.stops == []) : Bool)) Try.prog 6 Try.f6 Rows.fnWrdBitsSpec Rows.fnWrdBitsRow = true := by kernel_rfl
theorem cf7 : (fun (P : Program) (f : FuncId) (fn : Func) (s : ChangeSpec) (c : OpenClaim) => ((c.knobs == []) : Bool)) Try.prog 6 Try.f6 Rows.fnWrdBitsSpec Rows.fnWrdBitsRow = true := by kernel_rfl
theorem cf9 : (fun (P : Program) (f : FuncId) (fn : Func) (s : ChangeSpec) (c : OpenClaim) => ((c.inPlace == P.inPlace f) : Bool)) Try.prog 6 Try.f6 Rows.fnWrdBitsSpec Rows.fnWrdBitsRow = true := by kernel_rfl
theorem cf10 : (fun (P : Program) (f : FuncId) (fn : Func) (s : ChangeSpec) (c : OpenClaim) => ((c.unfollowed == P.unfollowed f) : Bool)) Try.prog 6 Try.f6 Rows.fnWrdBitsSpec Rows.fnWrdBitsRow = true := by kernel_rfl
theorem cf11 : (fun (P : Program) (f : FuncId) (fn : Func) (s : ChangeSpec) (c : OpenClaim) => ((c.recurses == P.recurses f) : Bool)) Try.prog 6 Try.f6 Rows.fnWrdBitsSpec Rows.fnWrdBitsRow = true := by kernel_rfl
theorem cf12 : (fun (P : Program) (f : FuncId) (fn : Func) (s : ChangeSpec) (c : OpenClaim) => ((c.named == P.varsNamed f) : Bool)) Try.prog 6 Try.f6 Rows.fnWrdBitsSpec Rows.fnWrdBitsRow = true := by kernel_rfl
theorem cf13 : (fun (P : Program) (f : FuncId) (fn : Func) (s : ChangeSpec) (c : OpenClaim) => ((c.maps == (fn.params.toList ++ s.plain.varTypes P).any (P.mapsRec ·)) : Bool)) Try.prog 6 Try.f6 Rows.fnWrdBitsSpec Rows.fnWrdBitsRow = true := by kernel_rfl
theorem cf14 : (fun (P : Program) (f : FuncId) (fn : Func) (s : ChangeSpec) (c : OpenClaim) => ((c.ifaces == (fn.params.toList ++ s.plain.varTypes P).any (P.ifacesRec ·)) : Bool)) Try.prog 6 Try.f6 Rows.fnWrdBitsSpec Rows.fnWrdBitsRow = true := by kernel_rfl
theorem cf15 : (fun (P : Program) (f : FuncId) (fn : Func) (s : ChangeSpec) (c : OpenClaim) => ((c.mapsOut == P.mapsAmong fn.resultTypes.toList) : Bool)) Try.prog 6 Try.f6 Rows.fnWrdBitsSpec Rows.fnWrdBitsRow = true := by kernel_rfl
theorem cf16 : (fun (P : Program) (f : FuncId) (fn : Func) (s : ChangeSpec) (c : OpenClaim) => ((c.loops == (fn.params.toList ++ s.plain.varTypes P).any (P.loopsFrom ·)) : Bool)) Try.prog 6 Try.f6 Rows.fnWrdBitsSpec Rows.fnWrdBitsRow = true := by kernel_rfl
theorem cf17 : (fun (P : Program) (f : FuncId) (fn : Func) (s : ChangeSpec) (c : OpenClaim) => ((c.wideKeys == (fn.params.toList ++ s.plain.varTypes P ++ fn.resultTypes.toList).any (P.wideKeysFrom ·)) : Bool)) Try.prog 6 Try.f6 Rows.fnWrdBitsSpec Rows.fnWrdBitsRow = true := by kernel_rfl
theorem cf18 : (fun (P : Program) (f : FuncId) (fn : Func) (s : ChangeSpec) (c : OpenClaim) => (s.vars.all (P.varReadable ·) : Bool)) Try.prog 6 Try.f6 Rows.fnWrdBitsSpec Rows.fnWrdBitsRow = true := by kernel_rfl
theorem cf19 : (fun (P : Program) (f : FuncId) (fn : Func) (s : ChangeSpec) (c : OpenClaim) => (fn.resultTypes.all (fun t => P.readableRec t && decide (t < P.types.size)) : Bool)) Try.prog 6 Try.f6 Rows.fnWrdBitsSpec Rows.fnWrdBitsRow = true := by kernel_rfl
theorem cf20 : (fun (P : Program) (f : FuncId) (fn : Func) (s : ChangeSpec) (c : OpenClaim) => ((c.ifacesOut == fn.resultTypes.toList.any (P.ifacesRec ·)) : Bool)) Try.prog 6 Try.f6 Rows.fnWrdBitsSpec Rows.fnWrdBitsRow = true := by kernel_rfl
theorem cf21 : (fun (P : Program) (f : FuncId) (fn : Func) (s : ChangeSpec) (c : OpenClaim) => ((c.loopsOut == fn.resultTypes.toList.any (P.loopsFrom ·)) : Bool)) Try.prog 6 Try.f6 Rows.fnWrdBitsSpec Rows.fnWrdBitsRow = true := by kernel_rfl
theorem cf23 : (fun (P : Program) (f : FuncId) (fn : Func) (s : ChangeSpec) (c : OpenClaim) => (c.shortTexts.isNone : Bool)) Try.prog 6 Try.f6 Rows.fnWrdBitsSpec Rows.fnWrdBitsRow = true := by kernel_rfl
theorem cf28 : (fun (P : Program) (f : FuncId) (fn : Func) (s : ChangeSpec) (c : OpenClaim) => ((c.kinds == (if c.domain.isEmpty then [] else fn.params.toList.map fun t => match P.underlying t with | some (.int k) => some k | _ => none)) : Bool)) Try.prog 6 Try.f6 Rows.fnWrdBitsSpec Rows.fnWrdBitsRow = true := by kernel_rfl
theorem cf29 : (fun (P : Program) (f : FuncId) (fn : Func) (s : ChangeSpec) (c : OpenClaim) => ((c.pinned == c.pinnedBy) : Bool)) Try.prog 6 Try.f6 Rows.fnWrdBitsSpec Rows.fnWrdBitsRow = true := by kernel_rfl
theorem cf30 : (fun (P : Program) (f : FuncId) (fn : Func) (s : ChangeSpec) (c : OpenClaim) => ((c.veiled == (fn.params.toList ++ s.plain.varTypes P ++ fn.resultTypes.toList).any (P.veiledRec ·)) : Bool)) Try.prog 6 Try.f6 Rows.fnWrdBitsSpec Rows.fnWrdBitsRow = true := by kernel_rfl
theorem cf31 : (fun (P : Program) (f : FuncId) (fn : Func) (s : ChangeSpec) (c : OpenClaim) => (c.veiledFits P fn.params.toList (fn.params.toList ++ s.plain.varTypes P ++ fn.resultTypes.toList) : Bool)) Try.prog 6 Try.f6 Rows.fnWrdBitsSpec Rows.fnWrdBitsRow = true := by kernel_rfl

set_option maxRecDepth 100000 in
theorem closed : joinedFacts Try.prog 6 Try.f6 Rows.fnWrdBitsSpec Rows.fnWrdBitsRow = true := by
  unfold joinedFacts
  exact (band (band (band (band (band (band (band (band (band (band (band (band (band (band (band (band (band (band (band (band (band (band (band (band (band (band (band (band (band (band (band cf0 pf1) pf2) cf3) cf4) cf5) pf6) cf7) pf8) cf9) cf10) cf11) cf12) cf13) cf14) cf15) cf16) cf17) cf18) cf19) cf20) cf21) pf22) cf23) pf24) pf25) pf26) pf27) cf28) cf29) cf30) cf31)
theorem inst : Try.f6.isInstance Try.prog Rows.fnWrdBitsRow.origin Rows.fnWrdBitsRow.targs := of_decide_eq_true (by kernel_rfl)
theorem wrap_ : Try.f6.isWrapper Try.prog Rows.fnWrdBitsRow.wrapper Rows.fnWrdBitsRow.mainSum := by
  unfold Func.isWrapper
  rw [if_neg (by decide +kernel)]
  exact ⟨rfl, rfl⟩

theorem over : Rows.fnWrdBitsRow.holds Try.pinned (OpenSpec.ofChange Rows.fnWrdBitsSpec) :=
  OpenClaim.holds_of_wide 6 Try.f6 rfl rfl rfl rfl rfl rfl rfl ⟨rfl, rfl, rfl, rfl, rfl⟩ rfl rfl rfl rfl rfl (by as_aux_lemma => kernel_rfl) Try.func6 closed inst wrap_
    (fun os started H enc _ => lifted os started H enc)

theorem proved : Rows.FnWrdBitsSaid := over
#print axioms proved
end Go.Proofs.Ytabbjnamlkphmaa.fnWrdBits
