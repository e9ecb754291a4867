/- The law FnExactPolAtom: PolAtom returns what the reference's PolAtom returns, for every number, in memory of its own. Conditions: none. -/
import Derived.Test.YtmlegiifceangaaRows
import Derived.WalkKit
import Derived.ProofKit
import Derived.OpenShut
import Derived.ShutString
import Derived.ChangeOld
import Derived.Below
import Derived.Carry
import Derived.Test.YtmlegiifceangaaF
import Derived.Test.YtmlegiifceangaaK
import Derived.Test.YtmlegiifceangaaG
import Derived.Test.YtmlegiifceangaaE
import Derived.Deep.RegionHeld3
namespace Go.Proofs.Ytmlegiifceangaa.fnExactPolAtom
open Go.ChangeShapes Go.WideShapes Go.ChangeAt Go.RowKit
set_option linter.unusedVariables false
set_option linter.unusedSimpArgs false

theorem walk (a0 : Int) (w : World) (wf0 : (Lit.int .i64 a0).wf = true) :
    Calls Try.prog 5 #[.int .i64 a0] w fun e w' => e = .returned (.bool true) ∧ Ext w w' := by
  go_enter Try.func5, Try.ntmps5
  go_wp2_with fail
  refine (specPolAtom _ _).mono ?_
  rintro e w1 ⟨A1, k1, ms1, rfl, hd1, ho1, hw1⟩
  have ht1 := tot_atom hd1
  have HD1 := hid hd1
  clear hd1
  go_wp2_with fail
  refine (implPolAtom _ _).mono ?_
  rintro e w2 ⟨A2, k2, ms2, rfl, hd2, ho2, hw2⟩
  have ht2 := tot_atom hd2
  have HD2 := hid hd2
  clear hd2
  have hn1 : ms1.length < 4611686018427387904 := by unfold totM at ht1; omega
  have hn2 : ms2.length < 4611686018427387904 := by unfold totM at ht2; omega
  have c1 : w2.cell? ⟨w1.heap.size, 0, none⟩ = some (.slice A1 ms1.length k1) := keep hw2 (by go_simp)
  have l1 := World.block_lt_of_cell? _ _ c1
  simp only at l1
  go_wp2_with fail
  refine (eqPoly _ _ _ _ _ _ ms2 ms1 _ (ho2.rm.ext (by repeat (first | with_reducible assumption | with_reducible exact Ext.refl _ | with_reducible apply Ext.drewN | with_reducible apply Ext.drew | with_reducible apply Ext.alloc | with_reducible refine Ext.set ?_ (by first | (simp; done) | (simp; omega)) _ | with_reducible refine Ext.next ?_ (by with_reducible assumption)))) (ho1.rm.ext (by repeat (first | with_reducible assumption | with_reducible exact Ext.refl _ | with_reducible apply Ext.drewN | with_reducible apply Ext.drew | with_reducible apply Ext.alloc | with_reducible refine Ext.set ?_ (by first | (simp; done) | (simp; omega)) _ | with_reducible refine Ext.next ?_ (by with_reducible assumption)))) (HD2.out.trans HD1.out.symm) rfl rfl (SzM.of_tot (by omega))).mono ?_
  rintro e w3 ⟨rfl, hw3⟩
  have d1 : w3.cell? ⟨w1.heap.size, 0, none⟩ = some (.slice A1 ms1.length k1) := keep hw3 (by go_simp)
  have d2 : w3.cell? ⟨w2.heap.size, 0, none⟩ = some (.slice A2 ms2.length k2) := keep hw3 (by go_simp)
  have l2 := World.block_lt_of_cell? _ _ d2
  simp only at l2
  go_wp2_with fail
  refine (markPoly _ _ _ _ _ _ (ho2.ext (by repeat (first | with_reducible assumption | with_reducible exact Ext.refl _ | with_reducible apply Ext.drewN | with_reducible apply Ext.drew | with_reducible apply Ext.alloc | with_reducible refine Ext.set ?_ (by first | (simp; done) | (simp; omega)) _ | with_reducible refine Ext.next ?_ (by with_reducible assumption)))) (by omega) (by omega)).mono ?_
  rintro e w4 ⟨rfl, ho4, hu4⟩
  have hfoot : ∀ b, foot A2 ms2 b → w1.heap.size < b ∧ b < w2.heap.size := fun b hb => by have := ho2.foot_ hb; simp at this; omega
  have hx13 : Ext w1 w3 := (by repeat (first | with_reducible assumption | with_reducible exact Ext.refl _ | with_reducible apply Ext.drewN | with_reducible apply Ext.drew | with_reducible apply Ext.alloc | with_reducible refine Ext.set ?_ (by first | (simp; done) | (simp; omega)) _ | with_reducible refine Ext.next ?_ (by with_reducible assumption)))
  have hx3 : Ext w w3 := hw1.next hx13
  have hx4 : Ext w w4 := ((Upd.of_ext hx3).next hu4).ext fun b hb => by have := hfoot b hb; have := hw1.size; omega
  have e1 : w4.cell? ⟨w1.heap.size, 0, none⟩ = some (.slice A1 ms1.length k1) := (hu4.cell (p := ⟨w1.heap.size, 0, none⟩) (by simp only; omega) (fun hb => by have := hfoot w1.heap.size hb; omega)).trans d1
  have e2 : w4.cell? ⟨w2.heap.size, 0, none⟩ = some (.slice A2 ms2.length k2) := (hu4.cell (p := ⟨w2.heap.size, 0, none⟩) (by simp only; omega) (fun hb => by have := hfoot w2.heap.size hb; omega)).trans d2
  have l3 := World.block_lt_of_cell? _ _ e1
  have l4 := World.block_lt_of_cell? _ _ e2
  simp only at l3 l4
  have hr1 : RM 86 3 w4 A1 ms1 := RM.upd_lt ho1.rm hx13 hu4 fun b hb hf => by have := hfoot b hf; omega
  have hr2 := ho4.rm
  have hbn : decide ((1 : Int) + (totM ms2 : Int) < 0) = false := by rw [decide_eq_false_iff_not]; omega
  clear hx3 hx13 hw3
  clear c1 d1 d2 hu4 ho1 ho2 ho4 l1 l2
  go_wp2_with fail
  refine (heldPoly _ _ _ _ _ hr2 (by omega) (by omega)).mono ?_
  rintro e w5 ⟨rfl, hw5⟩
  have f1 := keep hw5 e1
  have f2 := keep hw5 e2
  have l5 := lt_ext hw5 l3
  have l6 := lt_ext hw5 l4
  clear e1 e2 l3 l4
  go_wp2_with fail
  refine (implPolAtom _ _).mono ?_
  rintro e w6 ⟨A6, k6, ms6, rfl, hd6, ho6, hw6⟩
  have ht6 := tot_atom hd6
  have HD6 := hid hd6
  clear hd6
  have hn6 : ms6.length < 4611686018427387904 := by unfold totM at ht6; omega
  have g1 : w6.cell? ⟨w1.heap.size, 0, none⟩ = some (.slice A1 ms1.length k1) := by (repeat (first | with_reducible assumption | with_reducible refine keep (Ext.alloc (Ext.refl _) _) ?_ | with_reducible refine keep (Ext.drew (Ext.refl _)) ?_ | with_reducible refine keep (Ext.drewN (Ext.refl _) _) ?_ | with_reducible refine keep (by with_reducible assumption) ?_))
  have g2 : w6.cell? ⟨w2.heap.size, 0, none⟩ = some (.slice A2 ms2.length k2) := by (repeat (first | with_reducible assumption | with_reducible refine keep (Ext.alloc (Ext.refl _) _) ?_ | with_reducible refine keep (Ext.drew (Ext.refl _)) ?_ | with_reducible refine keep (Ext.drewN (Ext.refl _) _) ?_ | with_reducible refine keep (by with_reducible assumption) ?_))
  have l7 := World.block_lt_of_cell? _ _ g1
  have l8 := World.block_lt_of_cell? _ _ g2
  simp only at l7 l8
  clear f1 f2 l5 l6
  go_wp2_with fail
  refine (eqPoly _ _ _ _ _ _ ms6 ms1 _ (ho6.rm.ext (by repeat (first | with_reducible assumption | with_reducible exact Ext.refl _ | with_reducible apply Ext.drewN | with_reducible apply Ext.drew | with_reducible apply Ext.alloc | with_reducible refine Ext.set ?_ (by first | (simp; done) | (simp; omega)) _ | with_reducible refine Ext.next ?_ (by with_reducible assumption)))) (hr1.ext (by repeat (first | with_reducible assumption | with_reducible exact Ext.refl _ | with_reducible apply Ext.drewN | with_reducible apply Ext.drew | with_reducible apply Ext.alloc | with_reducible refine Ext.set ?_ (by first | (simp; done) | (simp; omega)) _ | with_reducible refine Ext.next ?_ (by with_reducible assumption)))) (HD6.out.trans HD1.out.symm) rfl rfl (SzM.of_tot (by omega))).mono ?_
  rintro e w7 ⟨rfl, hw7⟩
  have i2 : w7.cell? ⟨w2.heap.size, 0, none⟩ = some (.slice A2 ms2.length k2) := keep hw7 (by go_simp)
  clear g1 g2
  go_wp2_with fail
  refine (heldPoly _ _ _ _ _ (hr2.ext (by repeat (first | with_reducible assumption | with_reducible exact Ext.refl _ | with_reducible apply Ext.drewN | with_reducible apply Ext.drew | with_reducible apply Ext.alloc | with_reducible refine Ext.set ?_ (by first | (simp; done) | (simp; omega)) _ | with_reducible refine Ext.next ?_ (by with_reducible assumption)))) (by omega) (by omega)).mono ?_
  rintro e w8 ⟨rfl, hw8⟩
  go_wp2
  go_ret
  exact ⟨rfl, (by repeat (first | with_reducible assumption | with_reducible exact Ext.refl _ | with_reducible apply Ext.drewN | with_reducible apply Ext.drew | with_reducible apply Ext.alloc | with_reducible refine Ext.set ?_ (by first | (simp; done) | (simp; omega)) _ | with_reducible refine Ext.next ?_ (by with_reducible assumption)))⟩

set_option maxRecDepth 100000 in
theorem lifted (os : Os) (started : os.Started) (H : Type) (enc : TypeId × Value → H) :
    ReturnsInHanded {} Try.checked os 5 .any (Rows.fnExactPolAtomSpec.pre6 enc Try.prog Try.f5 Rows.fnExactPolAtomRow.domain false) (Rows.fnExactPolAtomSpec.post enc Try.prog Try.f5 false true false false) := by
  refine returnsInHanded_of_change (C := Try.checked) ownKnob_ started (by kernel_rfl) Try.func5
    (ChangeSpec.witness6 (enc := enc) (C := Try.checked) false ⟨#[], #[.int .i64 0], []⟩ 8 (by kernel_rfl) (by kernel_rfl) (by kernel_rfl) (by kernel_rfl)) ?_
  intro W base args ds gs before hval0 hW hcnd _
  have hval : ∀ (j : Nat) t v, Try.f5.params[j]? = some t → args[j]? = some v → Value.okWide Try.prog W .any base t v := hval0
  have hW' := hW
  obtain ⟨p, q, hA0, hV, rfl, hfz, hnd⟩ := hW
  have hA : DataW.TrodAll enc Try.prog W 0 (fun _ => true) true Try.f5.params.toList args.toList ds p := hA0
  rw [Try.params5] at hA hval
  obtain ⟨v0, vs0, d0, ds0, p0, q0, hargs, rfl, rfl, g0, r0⟩ := trodAll_cons hA
  obtain ⟨rfl, rfl, rfl⟩ := trodAll_nil r0
  obtain rfl : args = #[v0] := by cases args; simp_all
  obtain ⟨rfl, rfl⟩ := trodVars_none hV
  have lt0 : ∀ x ∈ p0, x.block < W.heap.size := by obtain ⟨m, hm⟩ := g0; exact DataW.trod_lt m _ _ _ hm
  obtain ⟨a0, e0, wf0⟩ := read_int (hval 0 3 v0 rfl rfl) g0
  subst e0
  clear hA0 hval0
  refine (walk a0 W wf0).mono fun e W' ⟨he, bel⟩ => ?_
  subst he
  exact ⟨_, rfl, _, _, _, [], _, [], hW', trodAll_mk1 (shut_bool Try.underlying4 _), (trodAll_cons_mk (Below.trod laidOut_ (by kernel_rfl) (of_decide_eq_true (by kernel_rfl)) g0 bel.out lt0) trodAll_mk0), rfl, bel.out.frame _, fun h => by cases h⟩
theorem cf0 : (fun (P : Program) (f : FuncId) (fn : Func) (s : ChangeSpec) (c : OpenClaim) => (c.wf (OpenSpec.ofChange s) : Bool)) Try.prog 5 Try.f5 Rows.fnExactPolAtomSpec Rows.fnExactPolAtomRow = true := by kernel_rfl
theorem cf3 : (fun (P : Program) (f : FuncId) (fn : Func) (s : ChangeSpec) (c : OpenClaim) => (fn.params.all (P.readableRec ·) : Bool)) Try.prog 5 Try.f5 Rows.fnExactPolAtomSpec Rows.fnExactPolAtomRow = true := by kernel_rfl
theorem cf4 : (fun (P : Program) (f : FuncId) (fn : Func) (s : ChangeSpec) (c : OpenClaim) => (namedTie P c.named s.vars : Bool)) Try.prog 5 Try.f5 Rows.fnExactPolAtomSpec Rows.fnExactPolAtomRow = true := by kernel_rfl
theorem cf5 : (fun (P : Program) (f : FuncId) (fn : Func) (s : ChangeSpec) (c : OpenClaim) => ((c.stops == []) : Bool)) Try.prog 5 Try.f5 Rows.fnExactPolAtomSpec Rows.fnExactPolAtomRow = true := by kernel_rfl
theorem cf7 : (fun (P : Program) (f : FuncId) (fn : Func) (s : ChangeSpec) (c : OpenClaim) => ((c.knobs == []) : Bool)) Try.prog 5 Try.f5 Rows.fnExactPolAtomSpec Rows.fnExactPolAtomRow = true := by kernel_rfl
theorem cf9 : (fun (P : Program) (f : FuncId) (fn : Func) (s : ChangeSpec) (c : OpenClaim) => ((c.inPlace == P.inPlace f) : Bool)) Try.prog 5 Try.f5 Rows.fnExactPolAtomSpec Rows.fnExactPolAtomRow = true := by kernel_rfl
theorem cf10 : (fun (P : Program) (f : FuncId) (fn : Func) (s : ChangeSpec) (c : OpenClaim) => ((c.unfollowed == P.unfollowed f) : Bool)) Try.prog 5 Try.f5 Rows.fnExactPolAtomSpec Rows.fnExactPolAtomRow = true := by kernel_rfl
theorem cf11 : (fun (P : Program) (f : FuncId) (fn : Func) (s : ChangeSpec) (c : OpenClaim) => ((c.recurses == P.recurses f) : Bool)) Try.prog 5 Try.f5 Rows.fnExactPolAtomSpec Rows.fnExactPolAtomRow = true := by kernel_rfl
theorem cf12 : (fun (P : Program) (f : FuncId) (fn : Func) (s : ChangeSpec) (c : OpenClaim) => ((c.named == P.varsNamed f) : Bool)) Try.prog 5 Try.f5 Rows.fnExactPolAtomSpec Rows.fnExactPolAtomRow = true := by kernel_rfl
theorem cf13 : (fun (P : Program) (f : FuncId) (fn : Func) (s : ChangeSpec) (c : OpenClaim) => ((c.maps == (fn.params.toList ++ s.plain.varTypes P).any (P.mapsRec ·)) : Bool)) Try.prog 5 Try.f5 Rows.fnExactPolAtomSpec Rows.fnExactPolAtomRow = true := by kernel_rfl
theorem cf14 : (fun (P : Program) (f : FuncId) (fn : Func) (s : ChangeSpec) (c : OpenClaim) => ((c.ifaces == (fn.params.toList ++ s.plain.varTypes P).any (P.ifacesRec ·)) : Bool)) Try.prog 5 Try.f5 Rows.fnExactPolAtomSpec Rows.fnExactPolAtomRow = true := by kernel_rfl
theorem cf15 : (fun (P : Program) (f : FuncId) (fn : Func) (s : ChangeSpec) (c : OpenClaim) => ((c.mapsOut == P.mapsAmong fn.resultTypes.toList) : Bool)) Try.prog 5 Try.f5 Rows.fnExactPolAtomSpec Rows.fnExactPolAtomRow = true := by kernel_rfl
theorem cf16 : (fun (P : Program) (f : FuncId) (fn : Func) (s : ChangeSpec) (c : OpenClaim) => ((c.loops == (fn.params.toList ++ s.plain.varTypes P).any (P.loopsFrom ·)) : Bool)) Try.prog 5 Try.f5 Rows.fnExactPolAtomSpec Rows.fnExactPolAtomRow = true := by kernel_rfl
theorem cf17 : (fun (P : Program) (f : FuncId) (fn : Func) (s : ChangeSpec) (c : OpenClaim) => ((c.wideKeys == (fn.params.toList ++ s.plain.varTypes P ++ fn.resultTypes.toList).any (P.wideKeysFrom ·)) : Bool)) Try.prog 5 Try.f5 Rows.fnExactPolAtomSpec Rows.fnExactPolAtomRow = true := by kernel_rfl
theorem cf18 : (fun (P : Program) (f : FuncId) (fn : Func) (s : ChangeSpec) (c : OpenClaim) => (s.vars.all (P.varReadable ·) : Bool)) Try.prog 5 Try.f5 Rows.fnExactPolAtomSpec Rows.fnExactPolAtomRow = true := by kernel_rfl
theorem cf19 : (fun (P : Program) (f : FuncId) (fn : Func) (s : ChangeSpec) (c : OpenClaim) => (fn.resultTypes.all (fun t => P.readableRec t && decide (t < P.types.size)) : Bool)) Try.prog 5 Try.f5 Rows.fnExactPolAtomSpec Rows.fnExactPolAtomRow = true := by kernel_rfl
theorem cf20 : (fun (P : Program) (f : FuncId) (fn : Func) (s : ChangeSpec) (c : OpenClaim) => ((c.ifacesOut == fn.resultTypes.toList.any (P.ifacesRec ·)) : Bool)) Try.prog 5 Try.f5 Rows.fnExactPolAtomSpec Rows.fnExactPolAtomRow = true := by kernel_rfl
theorem cf21 : (fun (P : Program) (f : FuncId) (fn : Func) (s : ChangeSpec) (c : OpenClaim) => ((c.loopsOut == fn.resultTypes.toList.any (P.loopsFrom ·)) : Bool)) Try.prog 5 Try.f5 Rows.fnExactPolAtomSpec Rows.fnExactPolAtomRow = true := by kernel_rfl
theorem cf23 : (fun (P : Program) (f : FuncId) (fn : Func) (s : ChangeSpec) (c : OpenClaim) => (c.shortTexts.isNone : Bool)) Try.prog 5 Try.f5 Rows.fnExactPolAtomSpec Rows.fnExactPolAtomRow = true := by kernel_rfl
theorem cf28 : (fun (P : Program) (f : FuncId) (fn : Func) (s : ChangeSpec) (c : OpenClaim) => ((c.kinds == (if c.domain.isEmpty then [] else fn.params.toList.map fun t => match P.underlying t with | some (.int k) => some k | _ => none)) : Bool)) Try.prog 5 Try.f5 Rows.fnExactPolAtomSpec Rows.fnExactPolAtomRow = true := by kernel_rfl
theorem cf29 : (fun (P : Program) (f : FuncId) (fn : Func) (s : ChangeSpec) (c : OpenClaim) => ((c.pinned == c.pinnedBy) : Bool)) Try.prog 5 Try.f5 Rows.fnExactPolAtomSpec Rows.fnExactPolAtomRow = true := by kernel_rfl
theorem cf30 : (fun (P : Program) (f : FuncId) (fn : Func) (s : ChangeSpec) (c : OpenClaim) => ((c.veiled == (fn.params.toList ++ s.plain.varTypes P ++ fn.resultTypes.toList).any (P.veiledRec ·)) : Bool)) Try.prog 5 Try.f5 Rows.fnExactPolAtomSpec Rows.fnExactPolAtomRow = true := by kernel_rfl
theorem cf31 : (fun (P : Program) (f : FuncId) (fn : Func) (s : ChangeSpec) (c : OpenClaim) => (c.veiledFits P fn.params.toList (fn.params.toList ++ s.plain.varTypes P ++ fn.resultTypes.toList) : Bool)) Try.prog 5 Try.f5 Rows.fnExactPolAtomSpec Rows.fnExactPolAtomRow = true := by kernel_rfl

set_option maxRecDepth 100000 in
theorem closed : joinedFacts Try.prog 5 Try.f5 Rows.fnExactPolAtomSpec Rows.fnExactPolAtomRow = true := by
  unfold joinedFacts
  exact (band (band (band (band (band (band (band (band (band (band (band (band (band (band (band (band (band (band (band (band (band (band (band (band (band (band (band (band (band (band (band cf0 pf1) pf2) cf3) cf4) cf5) pf6) cf7) pf8) cf9) cf10) cf11) cf12) cf13) cf14) cf15) cf16) cf17) cf18) cf19) cf20) cf21) pf22) cf23) pf24) pf25) pf26) pf27) cf28) cf29) cf30) cf31)
theorem inst : Try.f5.isInstance Try.prog Rows.fnExactPolAtomRow.origin Rows.fnExactPolAtomRow.targs := of_decide_eq_true (by kernel_rfl)
theorem wrap_ : Try.f5.isWrapper Try.prog Rows.fnExactPolAtomRow.wrapper Rows.fnExactPolAtomRow.mainSum := by
  unfold Func.isWrapper
  rw [if_neg (by decide +kernel)]
  exact ⟨rfl, rfl⟩

theorem over : Rows.fnExactPolAtomRow.holds Try.pinned (OpenSpec.ofChange Rows.fnExactPolAtomSpec) :=
  OpenClaim.holds_of_wide 5 Try.f5 rfl rfl rfl rfl rfl rfl rfl ⟨rfl, rfl, rfl, rfl, rfl⟩ rfl rfl rfl rfl rfl (by as_aux_lemma => kernel_rfl) Try.func5 closed inst wrap_
    (fun os started H enc _ => lifted os started H enc)

theorem proved : Rows.FnExactPolAtomSaid := over
#print axioms proved
end Go.Proofs.Ytmlegiifceangaa.fnExactPolAtom
