/- The law FnExactBlkOk: BlkOk returns what the reference's BlkOk returns, for every place and every list of instructions, and leaves the list as it is. Conditions: none. -/
import Derived.Test.YtabbjnamlkphmaaDoorRows
import Derived.WalkKit
import Derived.ProofKit
import Derived.OpenShut
import Derived.ShutString
import Derived.ChangeOld
import Derived.Below
import Derived.Carry
import Derived.Test.YtabbjnamlkphmaaDoorF
import Derived.Test.YtabbjnamlkphmaaDoorK
import Derived.Test.YtabbjnamlkphmaaDoorTie
import Derived.Test.YtabbjnamlkphmaaDoorCards
import Derived.SevenTiedAt
import Derived.Test.YtabbjnamlkphmaaDoorBL
namespace Go.Proofs.YtabbjnamlkphmaaDoor.fnExactBlkOk
open Go.ChangeShapes Go.WideShapes Go.ChangeAt Go.RowKit
set_option linter.unusedVariables false
set_option linter.unusedSimpArgs false

theorem walk (a0 : Int) (A1 : Option Addr) (k1 : Nat) (is1 : List In4) (w : World) (hF : LaidAt w) (wf0 : (Lit.int .i64 a0).wf = true) (h1 : AIn4 w A1 is1) (s1 : is1.length ≤ 9223372036854775807) :
    Calls Tryd.prog 6 #[.int .i64 a0, .slice A1 is1.length k1] w fun e w' => e = .returned (.bool true) ∧ Ext w w' := by
  by_cases hq : (1048576 : Int) < is1.length
  · have e1 := hid (szF_lt hq)
    go_enter Tryd.func6, Tryd.ntmps6
    go_wp2_with fail
    refine (szIn4S _ _ _ _ _ s1 (by omega) (by omega)).mono ?_
    rintro e w1 ⟨rfl, hw1⟩
    rw [e1.out]
    go_wp2
    go_ret
    exact ⟨rfl, (by repeat (first | with_reducible assumption | with_reducible exact Ext.refl _ | with_reducible apply Ext.drewN | with_reducible apply Ext.drew | with_reducible apply Ext.alloc | with_reducible refine Ext.set ?_ (by first | (simp; done) | (simp; omega)) _ | with_reducible refine Ext.next ?_ (by with_reducible assumption)))⟩
  have hn : is1.length ≤ 1048576 := by omega
  have e1 := hid (szF_ge (left := 1048576) (n := is1.length) (by omega))
  clear hq
  go_enter Tryd.func6, Tryd.ntmps6
  go_wp2_with fail
  refine (szIn4S _ _ _ _ _ s1 (by omega) (by omega)).mono ?_
  rintro e w1 ⟨rfl, hw1⟩
  rw [e1.out]
  go_wp2_with fail
  refine (toIn4S _ _ _ _ (h1.ext (by repeat (first | with_reducible assumption | with_reducible exact Ext.refl _ | with_reducible apply Ext.drewN | with_reducible apply Ext.drew | with_reducible apply Ext.alloc | with_reducible refine Ext.set ?_ (by first | (simp; done) | (simp; omega)) _ | with_reducible refine Ext.next ?_ (by with_reducible assumption)))) hn).mono ?_
  rintro e w2 ⟨A2, k2, rfl, ho2, hw2⟩
  go_wp2_with fail
  refine (specBlkOk _ _ _ is1 _ (ho2.rm.ext (by repeat (first | with_reducible assumption | with_reducible exact Ext.refl _ | with_reducible apply Ext.drewN | with_reducible apply Ext.drew | with_reducible apply Ext.alloc | with_reducible refine Ext.set ?_ (by first | (simp; done) | (simp; omega)) _ | with_reducible refine Ext.next ?_ (by with_reducible assumption)))) (by omega)).mono ?_
  rintro e w3 ⟨rfl, hw3⟩
  go_wp2_with fail
  refine (toIn4S _ _ _ _ (h1.ext (by repeat (first | with_reducible assumption | with_reducible exact Ext.refl _ | with_reducible apply Ext.drewN | with_reducible apply Ext.drew | with_reducible apply Ext.alloc | with_reducible refine Ext.set ?_ (by first | (simp; done) | (simp; omega)) _ | with_reducible refine Ext.next ?_ (by with_reducible assumption)))) hn).mono ?_
  rintro e w4 ⟨A4, k4, rfl, ho4, hw4⟩
  go_wp2_with fail
  refine (implBlkOk _ _ _ is1 _ (ho4.rm.ext (by repeat (first | with_reducible assumption | with_reducible exact Ext.refl _ | with_reducible apply Ext.drewN | with_reducible apply Ext.drew | with_reducible apply Ext.alloc | with_reducible refine Ext.set ?_ (by first | (simp; done) | (simp; omega)) _ | with_reducible refine Ext.next ?_ (by with_reducible assumption)))) (by omega) (hF.ext (by repeat (first | with_reducible assumption | with_reducible exact Ext.refl _ | with_reducible apply Ext.drewN | with_reducible apply Ext.drew | with_reducible apply Ext.alloc | with_reducible refine Ext.set ?_ (by first | (simp; done) | (simp; omega)) _ | with_reducible refine Ext.next ?_ (by with_reducible assumption))))).mono ?_
  rintro e w5 ⟨rfl, hw5⟩
  have hbn : (blkOk a0 is1 != blkOk a0 is1) = false := by simp
  go_wp2_with fail
  refine (toIn4S _ _ _ _ (h1.ext (by repeat (first | with_reducible assumption | with_reducible exact Ext.refl _ | with_reducible apply Ext.drewN | with_reducible apply Ext.drew | with_reducible apply Ext.alloc | with_reducible refine Ext.set ?_ (by first | (simp; done) | (simp; omega)) _ | with_reducible refine Ext.next ?_ (by with_reducible assumption)))) hn).mono ?_
  rintro e w6 ⟨A6, k6, rfl, ho6, hw6⟩
  go_wp2_with fail
  refine (eqIn4S _ _ _ _ _ is1 _ (ho4.rm.ext (by repeat (first | with_reducible assumption | with_reducible exact Ext.refl _ | with_reducible apply Ext.drewN | with_reducible apply Ext.drew | with_reducible apply Ext.alloc | with_reducible refine Ext.set ?_ (by first | (simp; done) | (simp; omega)) _ | with_reducible refine Ext.next ?_ (by with_reducible assumption)))) (ho6.rm.ext (by repeat (first | with_reducible assumption | with_reducible exact Ext.refl _ | with_reducible apply Ext.drewN | with_reducible apply Ext.drew | with_reducible apply Ext.alloc | with_reducible refine Ext.set ?_ (by first | (simp; done) | (simp; omega)) _ | with_reducible refine Ext.next ?_ (by with_reducible assumption)))) rfl (by omega)).mono ?_
  rintro e w7 ⟨rfl, hw7⟩
  go_wp2
  go_ret
  exact ⟨rfl, (by repeat (first | with_reducible assumption | with_reducible exact Ext.refl _ | with_reducible apply Ext.drewN | with_reducible apply Ext.drew | with_reducible apply Ext.alloc | with_reducible refine Ext.set ?_ (by first | (simp; done) | (simp; omega)) _ | with_reducible refine Ext.next ?_ (by with_reducible assumption)))⟩

set_option maxRecDepth 100000 in
theorem lifted (os : Os) (started : os.Started) (H : Type) (enc : TypeId × Value → H) :
    ReturnsInHanded {} Tryd.checked os 6 .any (fun w args => (Rows.fnExactBlkOkSpec.pre enc Tryd.prog Tryd.f6 Rows.fnExactBlkOkRow.domain false w args ∧ laidMetH Tryd.prog laidL w) ∧ sizedMet enc Tryd.prog Tryd.f6 (OpenSpec.ofChange Rows.fnExactBlkOkSpec) false w args) (Rows.fnExactBlkOkSpec.post enc Tryd.prog Tryd.f6 false true false false) := by
  refine returnsInHanded_of_change_and (C := Tryd.checked) (X := fun w _ => laidMetH Tryd.prog laidL w) (fun _ _ _ hh h => h.of_heap hh) ownKnob_ started (by kernel_rfl) Tryd.func6
    (ChangeSpec.witness_shaped (enc := enc) (C := Tryd.checked) (os := os) (X := fun w _ => laidMetH Tryd.prog laidL w) false (World.doorLaid Tryd.prog 46 os) #[.int .i64 0, .slice none 0 0] 8 rfl (World.shaped_of_RefB (by kernel_rfl) (by kernel_rfl)) (by kernel_rfl) (by kernel_rfl) (by kernel_rfl) (door_met os _)) ?_
  intro W base args ds gs before hval0 hW hcnd _ hL _
  have hval : ∀ (j : Nat) t v, Tryd.f6.params[j]? = some t → args[j]? = some v → Value.okWide Tryd.prog W .any base t v := hval0
  have hW' := hW
  obtain ⟨p, q, hA0, hV, rfl, hfz, hnd⟩ := hW
  have hA : DataW.TrodAll enc Tryd.prog W 0 (fun _ => true) true Tryd.f6.params.toList args.toList ds p := hA0
  rw [Tryd.params6] at hA hval
  obtain ⟨v0, vs0, d0, ds0, p0, q0, hargs, rfl, rfl, g0, r0⟩ := trodAll_cons hA
  obtain ⟨v1, vs1, d1, ds1, p1, q1, rfl, rfl, rfl, g1, r1⟩ := trodAll_cons r0
  obtain ⟨rfl, rfl, rfl⟩ := trodAll_nil r1
  obtain rfl : args = #[v0, v1] := by cases args; simp_all
  obtain ⟨gv, tv, csv, fuelv, dv, pv, rfl, hgv, htv, hvar, hdv, rfl⟩ := trodVars_one hV
  have hF := laidAt_of hL
  have lt0 : ∀ x ∈ p0, x.block < W.heap.size := by obtain ⟨m, hm⟩ := g0; exact DataW.trod_lt m _ _ _ hm
  obtain ⟨a0, e0, wf0⟩ := read_int (hval 0 3 v0 rfl rfl) g0
  subst e0
  have lt1 : ∀ x ∈ p1, x.block < W.heap.size := by obtain ⟨m, hm⟩ := g1; exact DataW.trod_lt m _ _ _ hm
  obtain ⟨A1, k1, is1, e1, h1, s1⟩ := read_inss (hval 1 33 v1 rfl rfl) g1
  subst e1
  clear hA0 hval0
  refine (walk a0 A1 k1 is1 W hF wf0 h1 s1).mono fun e W' ⟨he, bel⟩ => ?_
  subst he
  exact ⟨_, rfl, _, _, _, [], _, _, hW', trodAll_mk1 (shut_bool Tryd.underlying4 _), (trodAll_cons_mk (Below.trod laidOut_ (by kernel_rfl) (of_decide_eq_true (by kernel_rfl)) g0 bel.out lt0) (trodAll_cons_mk (Below.trod laidOut_ (by kernel_rfl) (of_decide_eq_true (by kernel_rfl)) g1 bel.out lt1) trodAll_mk0)), (vars_again hgv htv hvar hdv bel), bel.out.frame _, fun h => by cases h⟩
theorem cf0 : (fun (P : Program) (f : FuncId) (fn : Func) (s : ChangeSpec) (c : OpenClaim) => (c.wf (OpenSpec.ofChange s) : Bool)) Tryd.prog 6 Tryd.f6 Rows.fnExactBlkOkSpec Rows.fnExactBlkOkRow = true := by kernel_rfl
theorem cf3 : (fun (P : Program) (f : FuncId) (fn : Func) (s : ChangeSpec) (c : OpenClaim) => (fn.params.all (P.readableRec ·) : Bool)) Tryd.prog 6 Tryd.f6 Rows.fnExactBlkOkSpec Rows.fnExactBlkOkRow = true := by kernel_rfl
theorem cf4 : (fun (P : Program) (f : FuncId) (fn : Func) (s : ChangeSpec) (c : OpenClaim) => (namedTie P c.named s.vars : Bool)) Tryd.prog 6 Tryd.f6 Rows.fnExactBlkOkSpec Rows.fnExactBlkOkRow = true := by kernel_rfl
theorem cf5 : (fun (P : Program) (f : FuncId) (fn : Func) (s : ChangeSpec) (c : OpenClaim) => ((c.stops == []) : Bool)) Tryd.prog 6 Tryd.f6 Rows.fnExactBlkOkSpec Rows.fnExactBlkOkRow = true := by kernel_rfl
theorem cf7 : (fun (P : Program) (f : FuncId) (fn : Func) (s : ChangeSpec) (c : OpenClaim) => ((c.knobs == []) : Bool)) Tryd.prog 6 Tryd.f6 Rows.fnExactBlkOkSpec Rows.fnExactBlkOkRow = true := by kernel_rfl
theorem cf9 : (fun (P : Program) (f : FuncId) (fn : Func) (s : ChangeSpec) (c : OpenClaim) => ((c.inPlace == P.inPlace f) : Bool)) Tryd.prog 6 Tryd.f6 Rows.fnExactBlkOkSpec Rows.fnExactBlkOkRow = true := by kernel_rfl
theorem cf10 : (fun (P : Program) (f : FuncId) (fn : Func) (s : ChangeSpec) (c : OpenClaim) => ((c.unfollowed == P.unfollowed f) : Bool)) Tryd.prog 6 Tryd.f6 Rows.fnExactBlkOkSpec Rows.fnExactBlkOkRow = true := by kernel_rfl
theorem cf11 : (fun (P : Program) (f : FuncId) (fn : Func) (s : ChangeSpec) (c : OpenClaim) => ((c.recurses == P.recurses f) : Bool)) Tryd.prog 6 Tryd.f6 Rows.fnExactBlkOkSpec Rows.fnExactBlkOkRow = true := by kernel_rfl
theorem cf12 : (fun (P : Program) (f : FuncId) (fn : Func) (s : ChangeSpec) (c : OpenClaim) => ((c.named == P.varsNamed f) : Bool)) Tryd.prog 6 Tryd.f6 Rows.fnExactBlkOkSpec Rows.fnExactBlkOkRow = true := by kernel_rfl
theorem cf13 : (fun (P : Program) (f : FuncId) (fn : Func) (s : ChangeSpec) (c : OpenClaim) => ((c.maps == (fn.params.toList ++ s.plain.varTypes P).any (P.mapsRec ·)) : Bool)) Tryd.prog 6 Tryd.f6 Rows.fnExactBlkOkSpec Rows.fnExactBlkOkRow = true := by kernel_rfl
theorem cf14 : (fun (P : Program) (f : FuncId) (fn : Func) (s : ChangeSpec) (c : OpenClaim) => ((c.ifaces == (fn.params.toList ++ s.plain.varTypes P).any (P.ifacesRec ·)) : Bool)) Tryd.prog 6 Tryd.f6 Rows.fnExactBlkOkSpec Rows.fnExactBlkOkRow = true := by kernel_rfl
theorem cf15 : (fun (P : Program) (f : FuncId) (fn : Func) (s : ChangeSpec) (c : OpenClaim) => ((c.mapsOut == P.mapsAmong fn.resultTypes.toList) : Bool)) Tryd.prog 6 Tryd.f6 Rows.fnExactBlkOkSpec Rows.fnExactBlkOkRow = true := by kernel_rfl
theorem cf16 : (fun (P : Program) (f : FuncId) (fn : Func) (s : ChangeSpec) (c : OpenClaim) => ((c.loops == (fn.params.toList ++ s.plain.varTypes P).any (P.loopsFrom ·)) : Bool)) Tryd.prog 6 Tryd.f6 Rows.fnExactBlkOkSpec Rows.fnExactBlkOkRow = true := by kernel_rfl
theorem cf17 : (fun (P : Program) (f : FuncId) (fn : Func) (s : ChangeSpec) (c : OpenClaim) => ((c.wideKeys == (fn.params.toList ++ s.plain.varTypes P ++ fn.resultTypes.toList).any (P.wideKeysFrom ·)) : Bool)) Tryd.prog 6 Tryd.f6 Rows.fnExactBlkOkSpec Rows.fnExactBlkOkRow = true := by kernel_rfl
theorem cf18 : (fun (P : Program) (f : FuncId) (fn : Func) (s : ChangeSpec) (c : OpenClaim) => (s.vars.all (P.varReadable ·) : Bool)) Tryd.prog 6 Tryd.f6 Rows.fnExactBlkOkSpec Rows.fnExactBlkOkRow = true := by kernel_rfl
theorem cf19 : (fun (P : Program) (f : FuncId) (fn : Func) (s : ChangeSpec) (c : OpenClaim) => (fn.resultTypes.all (fun t => P.readableRec t && decide (t < P.types.size)) : Bool)) Tryd.prog 6 Tryd.f6 Rows.fnExactBlkOkSpec Rows.fnExactBlkOkRow = true := by kernel_rfl
theorem cf20 : (fun (P : Program) (f : FuncId) (fn : Func) (s : ChangeSpec) (c : OpenClaim) => ((c.ifacesOut == fn.resultTypes.toList.any (P.ifacesRec ·)) : Bool)) Tryd.prog 6 Tryd.f6 Rows.fnExactBlkOkSpec Rows.fnExactBlkOkRow = true := by kernel_rfl
theorem cf21 : (fun (P : Program) (f : FuncId) (fn : Func) (s : ChangeSpec) (c : OpenClaim) => ((c.loopsOut == fn.resultTypes.toList.any (P.loopsFrom ·)) : Bool)) Tryd.prog 6 Tryd.f6 Rows.fnExactBlkOkSpec Rows.fnExactBlkOkRow = true := by kernel_rfl
theorem cf23 : (fun (P : Program) (f : FuncId) (fn : Func) (s : ChangeSpec) (c : OpenClaim) => (c.shortTexts.isNone : Bool)) Tryd.prog 6 Tryd.f6 Rows.fnExactBlkOkSpec Rows.fnExactBlkOkRow = true := by kernel_rfl
theorem cf28 : (fun (P : Program) (f : FuncId) (fn : Func) (s : ChangeSpec) (c : OpenClaim) => ((c.kinds == (if c.domain.isEmpty then [] else fn.params.toList.map fun t => match P.underlying t with | some (.int k) => some k | _ => none)) : Bool)) Tryd.prog 6 Tryd.f6 Rows.fnExactBlkOkSpec Rows.fnExactBlkOkRow = true := by kernel_rfl
theorem cf29 : (fun (P : Program) (f : FuncId) (fn : Func) (s : ChangeSpec) (c : OpenClaim) => ((c.pinned == c.pinnedBy) : Bool)) Tryd.prog 6 Tryd.f6 Rows.fnExactBlkOkSpec Rows.fnExactBlkOkRow = true := by kernel_rfl
theorem cf30 : (fun (P : Program) (f : FuncId) (fn : Func) (s : ChangeSpec) (c : OpenClaim) => ((c.veiled == (fn.params.toList ++ s.plain.varTypes P ++ fn.resultTypes.toList).any (P.veiledRec ·)) : Bool)) Tryd.prog 6 Tryd.f6 Rows.fnExactBlkOkSpec Rows.fnExactBlkOkRow = true := by kernel_rfl
theorem cf31 : (fun (P : Program) (f : FuncId) (fn : Func) (s : ChangeSpec) (c : OpenClaim) => (c.veiledFits P fn.params.toList (fn.params.toList ++ s.plain.varTypes P ++ fn.resultTypes.toList) : Bool)) Tryd.prog 6 Tryd.f6 Rows.fnExactBlkOkSpec Rows.fnExactBlkOkRow = true := by kernel_rfl

set_option maxRecDepth 100000 in
theorem closed : joinedFacts Tryd.prog 6 Tryd.f6 Rows.fnExactBlkOkSpec Rows.fnExactBlkOkRow = true := by
  unfold joinedFacts
  exact (band (band (band (band (band (band (band (band (band (band (band (band (band (band (band (band (band (band (band (band (band (band (band (band (band (band (band (band (band (band (band cf0 pf1) pf2) cf3) cf4) cf5) pf6) cf7) pf8) cf9) cf10) cf11) cf12) cf13) cf14) cf15) cf16) cf17) cf18) cf19) cf20) cf21) pf22) cf23) pf24) pf25) pf26) pf27) cf28) cf29) cf30) cf31)
theorem inst : Tryd.f6.isInstance Tryd.prog Rows.fnExactBlkOkRow.origin Rows.fnExactBlkOkRow.targs := of_decide_eq_true (by kernel_rfl)
theorem wrap_ : Tryd.f6.isWrapper Tryd.prog Rows.fnExactBlkOkRow.wrapper Rows.fnExactBlkOkRow.mainSum := by
  unfold Func.isWrapper
  rw [if_neg (by decide +kernel)]
  exact ⟨rfl, rfl⟩

theorem over : Rows.fnExactBlkOkRow.holds Tryd.pinned (OpenSpec.ofChange Rows.fnExactBlkOkSpec) :=
  OpenClaim.holds_of_wide 6 Tryd.f6 rfl rfl rfl rfl rfl rfl rfl ⟨rfl, rfl, rfl, rfl, rfl⟩ rfl rfl rfl rfl rfl (by as_aux_lemma => kernel_rfl) Tryd.func6 closed inst wrap_
    (fun os started H enc _ => lifted os started H enc)

theorem proved : Rows.FnExactBlkOkCardSaid :=
  Claim7.holds_tied_plain_at .later [] [.widerDeep] true (true, "028d24dd320b27b6c46a05199ebe84f8fff121ddae3ec7ca276d10def80d8688") false over (fun _ h => by cases h) (by kernel_rfl) (fun _ h => by cases h) fnExactBlkOk_row_tie rfl ⟨rfl, rfl⟩ (by kernel_rfl) rfl
    (fun f fn hf hfn => by
      obtain rfl : f = 6 := Option.some.inj ((show Tryd.prog.funcNamed "loop.example/latimer/laws.FnExactBlkOk" = some 6 by kernel_rfl).symm.trans hf) |>.symm
      obtain rfl : fn = Tryd.f6 := (Option.some.inj (Tryd.func6.symm.trans hfn)).symm
      exact ⟨by kernel_rfl, fun j t ht => by
        rw [Tryd.params6] at ht
        have hm : t ∈ [3, 33] := by simpa using Array.mem_of_getElem? ht
        have hall : ([3, 33].all fun u => !Tryd.prog.wantsStandIn u) = true := by kernel_rfl
        exact (show Tryd.prog.wantsStandIn t = false by simpa using List.all_eq_true.1 hall t hm)⟩)
    (by kernel_rfl)
#print axioms proved
end Go.Proofs.YtabbjnamlkphmaaDoor.fnExactBlkOk
