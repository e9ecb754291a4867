/- The law FnExactIrOk: IrOk returns what the reference's IrOk returns, for every piece of code, and leaves it as it is. Conditions: none. -/
import Derived.Test.YtcjeeggffeoilaaRows
import Derived.WalkKit
import Derived.ProofKit
import Derived.OpenShut
import Derived.ShutString
import Derived.ChangeOld
import Derived.Below
import Derived.Carry
import Derived.Test.YtcjeeggffeoilaaF
import Derived.Test.YtcjeeggffeoilaaK
import Derived.Test.YtcjeeggffeoilaaBY
import Derived.Deep.RegionHeld3
namespace Go.Proofs.Ytcjeeggffeoilaa.fnExactIrOk
open Go.ChangeShapes Go.WideShapes Go.ChangeAt Go.RowKit
set_option linter.unusedVariables false
set_option linter.unusedSimpArgs false

def Lies7 (w : World) (g : Nat) (b : Bk) : Prop := w.cell? ⟨g, 0, none⟩ = some (.int .i64 b.pc) ∧ w.cell? ⟨g, 1, none⟩ = some (.int .i64 b.len) ∧ w.cell? ⟨g, 2, none⟩ = some (.slice b.A b.ops.length b.c) ∧ w.cell? ⟨g, 3, none⟩ = some (.int .i64 b.end_) ∧ w.cell? ⟨g, 4, none⟩ = some (.int .i64 b.x) ∧ w.cell? ⟨g, 5, none⟩ = some (.int .i64 b.y) ∧ w.cell? ⟨g, 6, none⟩ = some (.int .i64 b.k)

set_option maxRecDepth 100000 in
set_option maxHeartbeats 2000000 in
theorem walk (b0 : Bk) (w : World) (h0 : ABk w b0) (s0 : b0.ops.length ≤ 9223372036854775807) :
    Calls Try.prog 5 #[b0.val] w fun e w' => e = .returned (.bool true) ∧ Ext w w' := by
  by_cases hq : (1048576 : Int) < b0.ops.length
  · have e1 := hid (szF_lt hq)
    have hb : szF 1048576 b0.ops.length < 0 := by rw [szF_lt hq]; omega
    unfold Bk.val Bk.cells
    go_enter Try.func5, Try.ntmps5
    go_wp2_with fail
    refine (szBlock b0 _ _ s0 (by omega) (by omega)).mono ?_
    rintro e w1 ⟨rfl, hw1⟩
    go_wp2
    go_ret
    exact ⟨rfl, (by repeat (first | with_reducible assumption | with_reducible exact Ext.refl _ | with_reducible apply Ext.drewN | with_reducible apply Ext.drew | with_reducible apply Ext.alloc | with_reducible refine Ext.set ?_ (by first | (simp; done) | (simp; omega)) _ | with_reducible refine Ext.next ?_ (by with_reducible assumption)))⟩
  have hb : 0 ≤ szF 1048576 b0.ops.length := by rw [szF_ge (by omega)]; omega
  have ht : b0.ops.length ≤ 1048576 := by omega
  have SM : Hid (∀ b : Bk, b.dat = b0.dat → b.ops.length ≤ 1048576) := hid fun b e => by
    unfold Bk.dat at e
    simp only [Prod.mk.injEq] at e
    rw [e.2.2.1]
    exact ht
  obtain ⟨v, hv⟩ : ∃ v : Bool, (irOk b0) = v := ⟨_, rfl⟩
  have HV : Hid (∀ b : Bk, b.dat = b0.dat → (irOk b) = v) := hid fun b e => by
    rw [← hv]
    exact irOk_dat e
  have hne : (v != v) = false := by simp
  clear hq hv
  unfold Bk.val Bk.cells
  go_enter Try.func5, Try.ntmps5
  go_wp2_with fail
  refine (szBlock b0 _ _ s0 (by omega) (by omega)).mono ?_
  rintro e w1 ⟨rfl, hw1⟩
  obtain ⟨hc1, hf1⟩ := bcell_ hw1
  have hz1 : w.heap.size < w1.heap.size := by have := hw1.size; simp at this; omega
  go_wp2_with fail
  refine (toBlock b0 _ (h0.ext (by repeat (first | with_reducible assumption | with_reducible exact Ext.refl _ | with_reducible apply Ext.drewN | with_reducible apply Ext.drew | with_reducible apply Ext.alloc | with_reducible refine Ext.set ?_ (by first | (simp; done) | (simp; omega)) _ | with_reducible refine Ext.next ?_ (by with_reducible assumption)))) ht).mono ?_
  rintro e w2 ⟨b2, rfl, hd2, ho2, hw2⟩
  have HD2 := hid hd2
  clear hd2
  obtain ⟨hc2, hf2⟩ := bcell_ hw2
  have hz2 := lt_ext hw2 hz1
  go_wp2_with fail
  refine (specIrOk b2 _ ho2.rm (by have := SM.out b2 HD2.out; omega)).mono ?_
  rintro e w3 ⟨rfl, hw3⟩
  rw [HV.out b2 HD2.out]
  obtain ⟨hc3, hf3⟩ := bcell_ hw3
  have hz3 := lt_ext hw3 hz2
  go_wp2_with fail
  refine (toBlock b0 _ (h0.ext (by repeat (first | with_reducible assumption | with_reducible exact Ext.refl _ | with_reducible apply Ext.drewN | with_reducible apply Ext.drew | with_reducible apply Ext.alloc | with_reducible refine Ext.set ?_ (by first | (simp; done) | (simp; omega)) _ | with_reducible refine Ext.next ?_ (by with_reducible assumption)))) ht).mono ?_
  rintro e w4 ⟨b4, rfl, hd4, ho4, hw4⟩
  have HD4 := hid hd4
  clear hd4
  unfold Bk.val Bk.cells
  obtain ⟨hc4, hf4⟩ := bcell_ hw4
  have hz4 := lt_ext hw4 hz3
  go_wp2_with fail
  refine (implIrOk b4 _ (ho4.rm.ext (by repeat (first | with_reducible assumption | with_reducible exact Ext.refl _ | with_reducible apply Ext.drewN | with_reducible apply Ext.drew | with_reducible apply Ext.alloc | with_reducible refine Ext.set ?_ (by first | (simp; done) | (simp; omega)) _ | with_reducible refine Ext.next ?_ (by with_reducible assumption)))) (by have := SM.out b4 HD4.out; omega)).mono ?_
  rintro e w5 ⟨rfl, hw5⟩
  rw [HV.out b4 HD4.out]
  obtain ⟨hc5, hf5⟩ := bcell_ hw5
  have hy5 : w4.heap.size < w5.heap.size := by have := hw5.size; simp at this; omega
  have hz5 : w.heap.size < w5.heap.size := by omega
  have hu4 : w.heap.size < w4.heap.size := hz4
  clear hb
  have L0 : Lies7 w5 w.heap.size b0 := by unfold Lies7; refine ⟨?_, ?_, ?_, ?_, ?_, ?_, ?_⟩ <;> go_simp
  have L4 : Lies7 w5 w4.heap.size b4 := by unfold Lies7; refine ⟨?_, ?_, ?_, ?_, ?_, ?_, ?_⟩ <;> go_simp
  obtain ⟨f0, f1, f2, f3, f4, f5, f6⟩ := L0
  obtain ⟨g0, g1, g2, g3, g4, g5, g6⟩ := L4
  clear hc1 hc2 hc3 hc4 hc5 hf1 hf2 hf3 hf4 hf5 hz1 hz2 hz3 hz4 hz5 hy5 hu4
  go_wp2
  go_region_held3 (fun w' => w'.cell? ⟨w.heap.size, 0, none⟩ = some (.int .i64 b0.pc) ∧ w'.cell? ⟨w.heap.size, 1, none⟩ = some (.int .i64 b0.len) ∧ w'.cell? ⟨w.heap.size, 2, none⟩ = some (.slice b0.A b0.ops.length b0.c) ∧ w'.cell? ⟨w.heap.size, 3, none⟩ = some (.int .i64 b0.end_) ∧ w'.cell? ⟨w.heap.size, 4, none⟩ = some (.int .i64 b0.x) ∧ w'.cell? ⟨w.heap.size, 5, none⟩ = some (.int .i64 b0.y) ∧ w'.cell? ⟨w.heap.size, 6, none⟩ = some (.int .i64 b0.k) ∧ w'.cell? ⟨w4.heap.size, 0, none⟩ = some (.int .i64 b4.pc) ∧ w'.cell? ⟨w4.heap.size, 1, none⟩ = some (.int .i64 b4.len) ∧ w'.cell? ⟨w4.heap.size, 2, none⟩ = some (.slice b4.A b4.ops.length b4.c) ∧ w'.cell? ⟨w4.heap.size, 3, none⟩ = some (.int .i64 b4.end_) ∧ w'.cell? ⟨w4.heap.size, 4, none⟩ = some (.int .i64 b4.x) ∧ w'.cell? ⟨w4.heap.size, 5, none⟩ = some (.int .i64 b4.y) ∧ w'.cell? ⟨w4.heap.size, 6, none⟩ = some (.int .i64 b4.k)) (refine ⟨?_, ?_, ?_, ?_, ?_, ?_, ?_, ?_, ?_, ?_, ?_, ?_, ?_, ?_⟩ <;> ((repeat (first | with_reducible assumption | with_reducible refine keep (Ext.alloc (Ext.refl _) _) ?_ | with_reducible refine keep (Ext.drew (Ext.refl _)) ?_ | with_reducible refine keep (Ext.drewN (Ext.refl _) _) ?_ | with_reducible refine keep (by with_reducible assumption) ?_)); done)) (first | (go_at_call 21; refine (toBlock b0 _ (h0.ext (by repeat (first | with_reducible assumption | with_reducible exact Ext.refl _ | with_reducible apply Ext.drewN | with_reducible apply Ext.drew | with_reducible apply Ext.alloc | with_reducible refine Ext.set ?_ (by first | (simp; done) | (simp; omega)) _ | with_reducible refine Ext.next ?_ (by with_reducible assumption)))) ht).mono ?_; rintro e w6 ⟨b6, rfl, hd6, ho6, hw6⟩; have HD6 := hid hd6; clear hd6) | (go_at_call 23; refine (eqBlock b4 b6 _ (ho4.rm.ext (by repeat (first | with_reducible assumption | with_reducible exact Ext.refl _ | with_reducible apply Ext.drewN | with_reducible apply Ext.drew | with_reducible apply Ext.alloc | with_reducible refine Ext.set ?_ (by first | (simp; done) | (simp; omega)) _ | with_reducible refine Ext.next ?_ (by with_reducible assumption)))) (ho6.rm.ext (by repeat (first | with_reducible assumption | with_reducible exact Ext.refl _ | with_reducible apply Ext.drewN | with_reducible apply Ext.drew | with_reducible apply Ext.alloc | with_reducible refine Ext.set ?_ (by first | (simp; done) | (simp; omega)) _ | with_reducible refine Ext.next ?_ (by with_reducible assumption)))) (HD4.out.trans HD6.out.symm) (by have := SM.out b4 HD4.out; omega)).mono ?_; rintro e w7 ⟨rfl, hw7⟩))
  go_wp2
  go_ret
  exact ⟨rfl, (by repeat (first | with_reducible assumption | with_reducible exact Ext.refl _ | with_reducible apply Ext.drewN | with_reducible apply Ext.drew | with_reducible apply Ext.alloc | with_reducible refine Ext.set ?_ (by first | (simp; done) | (simp; omega)) _ | with_reducible refine Ext.next ?_ (by with_reducible assumption)))⟩

set_option maxRecDepth 100000 in
theorem lifted (os : Os) (started : os.Started) (H : Type) (enc : TypeId × Value → H) :
    ReturnsInHanded {} Try.checked os 5 .any (Rows.fnExactIrOkSpec.pre6 enc Try.prog Try.f5 Rows.fnExactIrOkRow.domain false) (Rows.fnExactIrOkSpec.post enc Try.prog Try.f5 false true false false) := by
  refine returnsInHanded_of_change (C := Try.checked) ownKnob_ started (by kernel_rfl) Try.func5
    (ChangeSpec.witness6 (enc := enc) (C := Try.checked) false ⟨#[], #[.agg #[.int .i64 0, .int .i64 0, .slice none 0 0, .int .i64 0, .int .i64 0, .int .i64 0, .int .i64 0]], []⟩ 8 (by kernel_rfl) (by kernel_rfl) (by kernel_rfl) (by kernel_rfl)) ?_
  intro W base args ds gs before hval0 hW hcnd _
  have hval : ∀ (j : Nat) t v, Try.f5.params[j]? = some t → args[j]? = some v → Value.okWide Try.prog W .any base t v := hval0
  have hW' := hW
  obtain ⟨p, q, hA0, hV, rfl, hfz, hnd⟩ := hW
  have hA : DataW.TrodAll enc Try.prog W 0 (fun _ => true) true Try.f5.params.toList args.toList ds p := hA0
  rw [Try.params5] at hA hval
  obtain ⟨v0, vs0, d0, ds0, p0, q0, hargs, rfl, rfl, g0, r0⟩ := trodAll_cons hA
  obtain ⟨rfl, rfl, rfl⟩ := trodAll_nil r0
  obtain rfl : args = #[v0] := by cases args; simp_all
  obtain ⟨rfl, rfl⟩ := trodVars_none hV
  have lt0 : ∀ x ∈ p0, x.block < W.heap.size := by obtain ⟨m, hm⟩ := g0; exact DataW.trod_lt m _ _ _ hm
  obtain ⟨b0, e0, h0, s0⟩ := read_block (hval 0 39 v0 rfl rfl) g0
  subst e0
  clear hA0 hval0
  refine (walk b0 W h0 s0).mono fun e W' ⟨he, bel⟩ => ?_
  subst he
  exact ⟨_, rfl, _, _, _, [], _, [], hW', trodAll_mk1 (shut_bool Try.underlying4 _), (trodAll_cons_mk (Below.trod laidOut_ (by kernel_rfl) (of_decide_eq_true (by kernel_rfl)) g0 bel.out lt0) trodAll_mk0), rfl, bel.out.frame _, fun h => by cases h⟩
theorem cf0 : (fun (P : Program) (f : FuncId) (fn : Func) (s : ChangeSpec) (c : OpenClaim) => (c.wf (OpenSpec.ofChange s) : Bool)) Try.prog 5 Try.f5 Rows.fnExactIrOkSpec Rows.fnExactIrOkRow = true := by kernel_rfl
theorem cf3 : (fun (P : Program) (f : FuncId) (fn : Func) (s : ChangeSpec) (c : OpenClaim) => (fn.params.all (P.readableRec ·) : Bool)) Try.prog 5 Try.f5 Rows.fnExactIrOkSpec Rows.fnExactIrOkRow = true := by kernel_rfl
theorem cf4 : (fun (P : Program) (f : FuncId) (fn : Func) (s : ChangeSpec) (c : OpenClaim) => (namedTie P c.named s.vars : Bool)) Try.prog 5 Try.f5 Rows.fnExactIrOkSpec Rows.fnExactIrOkRow = true := by kernel_rfl
theorem cf5 : (fun (P : Program) (f : FuncId) (fn : Func) (s : ChangeSpec) (c : OpenClaim) => ((c.stops == []) : Bool)) Try.prog 5 Try.f5 Rows.fnExactIrOkSpec Rows.fnExactIrOkRow = true := by kernel_rfl
theorem cf7 : (fun (P : Program) (f : FuncId) (fn : Func) (s : ChangeSpec) (c : OpenClaim) => ((c.knobs == []) : Bool)) Try.prog 5 Try.f5 Rows.fnExactIrOkSpec Rows.fnExactIrOkRow = true := by kernel_rfl
theorem cf9 : (fun (P : Program) (f : FuncId) (fn : Func) (s : ChangeSpec) (c : OpenClaim) => ((c.inPlace == P.inPlace f) : Bool)) Try.prog 5 Try.f5 Rows.fnExactIrOkSpec Rows.fnExactIrOkRow = true := by kernel_rfl
theorem cf10 : (fun (P : Program) (f : FuncId) (fn : Func) (s : ChangeSpec) (c : OpenClaim) => ((c.unfollowed == P.unfollowed f) : Bool)) Try.prog 5 Try.f5 Rows.fnExactIrOkSpec Rows.fnExactIrOkRow = true := by kernel_rfl
theorem cf11 : (fun (P : Program) (f : FuncId) (fn : Func) (s : ChangeSpec) (c : OpenClaim) => ((c.recurses == P.recurses f) : Bool)) Try.prog 5 Try.f5 Rows.fnExactIrOkSpec Rows.fnExactIrOkRow = true := by kernel_rfl
theorem cf12 : (fun (P : Program) (f : FuncId) (fn : Func) (s : ChangeSpec) (c : OpenClaim) => ((c.named == P.varsNamed f) : Bool)) Try.prog 5 Try.f5 Rows.fnExactIrOkSpec Rows.fnExactIrOkRow = true := by kernel_rfl
theorem cf13 : (fun (P : Program) (f : FuncId) (fn : Func) (s : ChangeSpec) (c : OpenClaim) => ((c.maps == (fn.params.toList ++ s.plain.varTypes P).any (P.mapsRec ·)) : Bool)) Try.prog 5 Try.f5 Rows.fnExactIrOkSpec Rows.fnExactIrOkRow = true := by kernel_rfl
theorem cf14 : (fun (P : Program) (f : FuncId) (fn : Func) (s : ChangeSpec) (c : OpenClaim) => ((c.ifaces == (fn.params.toList ++ s.plain.varTypes P).any (P.ifacesRec ·)) : Bool)) Try.prog 5 Try.f5 Rows.fnExactIrOkSpec Rows.fnExactIrOkRow = true := by kernel_rfl
theorem cf15 : (fun (P : Program) (f : FuncId) (fn : Func) (s : ChangeSpec) (c : OpenClaim) => ((c.mapsOut == P.mapsAmong fn.resultTypes.toList) : Bool)) Try.prog 5 Try.f5 Rows.fnExactIrOkSpec Rows.fnExactIrOkRow = true := by kernel_rfl
theorem cf16 : (fun (P : Program) (f : FuncId) (fn : Func) (s : ChangeSpec) (c : OpenClaim) => ((c.loops == (fn.params.toList ++ s.plain.varTypes P).any (P.loopsFrom ·)) : Bool)) Try.prog 5 Try.f5 Rows.fnExactIrOkSpec Rows.fnExactIrOkRow = true := by kernel_rfl
theorem cf17 : (fun (P : Program) (f : FuncId) (fn : Func) (s : ChangeSpec) (c : OpenClaim) => ((c.wideKeys == (fn.params.toList ++ s.plain.varTypes P ++ fn.resultTypes.toList).any (P.wideKeysFrom ·)) : Bool)) Try.prog 5 Try.f5 Rows.fnExactIrOkSpec Rows.fnExactIrOkRow = true := by kernel_rfl
theorem cf18 : (fun (P : Program) (f : FuncId) (fn : Func) (s : ChangeSpec) (c : OpenClaim) => (s.vars.all (P.varReadable ·) : Bool)) Try.prog 5 Try.f5 Rows.fnExactIrOkSpec Rows.fnExactIrOkRow = true := by kernel_rfl
theorem cf19 : (fun (P : Program) (f : FuncId) (fn : Func) (s : ChangeSpec) (c : OpenClaim) => (fn.resultTypes.all (fun t => P.readableRec t && decide (t < P.types.size)) : Bool)) Try.prog 5 Try.f5 Rows.fnExactIrOkSpec Rows.fnExactIrOkRow = true := by kernel_rfl
theorem cf20 : (fun (P : Program) (f : FuncId) (fn : Func) (s : ChangeSpec) (c : OpenClaim) => ((c.ifacesOut == fn.resultTypes.toList.any (P.ifacesRec ·)) : Bool)) Try.prog 5 Try.f5 Rows.fnExactIrOkSpec Rows.fnExactIrOkRow = true := by kernel_rfl
theorem cf21 : (fun (P : Program) (f : FuncId) (fn : Func) (s : ChangeSpec) (c : OpenClaim) => ((c.loopsOut == fn.resultTypes.toList.any (P.loopsFrom ·)) : Bool)) Try.prog 5 Try.f5 Rows.fnExactIrOkSpec Rows.fnExactIrOkRow = true := by kernel_rfl
theorem cf23 : (fun (P : Program) (f : FuncId) (fn : Func) (s : ChangeSpec) (c : OpenClaim) => (c.shortTexts.isNone : Bool)) Try.prog 5 Try.f5 Rows.fnExactIrOkSpec Rows.fnExactIrOkRow = true := by kernel_rfl
theorem cf28 : (fun (P : Program) (f : FuncId) (fn : Func) (s : ChangeSpec) (c : OpenClaim) => ((c.kinds == (if c.domain.isEmpty then [] else fn.params.toList.map fun t => match P.underlying t with | some (.int k) => some k | _ => none)) : Bool)) Try.prog 5 Try.f5 Rows.fnExactIrOkSpec Rows.fnExactIrOkRow = true := by kernel_rfl
theorem cf29 : (fun (P : Program) (f : FuncId) (fn : Func) (s : ChangeSpec) (c : OpenClaim) => ((c.pinned == c.pinnedBy) : Bool)) Try.prog 5 Try.f5 Rows.fnExactIrOkSpec Rows.fnExactIrOkRow = true := by kernel_rfl
theorem cf30 : (fun (P : Program) (f : FuncId) (fn : Func) (s : ChangeSpec) (c : OpenClaim) => ((c.veiled == (fn.params.toList ++ s.plain.varTypes P ++ fn.resultTypes.toList).any (P.veiledRec ·)) : Bool)) Try.prog 5 Try.f5 Rows.fnExactIrOkSpec Rows.fnExactIrOkRow = true := by kernel_rfl
theorem cf31 : (fun (P : Program) (f : FuncId) (fn : Func) (s : ChangeSpec) (c : OpenClaim) => (c.veiledFits P fn.params.toList (fn.params.toList ++ s.plain.varTypes P ++ fn.resultTypes.toList) : Bool)) Try.prog 5 Try.f5 Rows.fnExactIrOkSpec Rows.fnExactIrOkRow = true := by kernel_rfl

set_option maxRecDepth 100000 in
theorem closed : joinedFacts Try.prog 5 Try.f5 Rows.fnExactIrOkSpec Rows.fnExactIrOkRow = true := by
  unfold joinedFacts
  exact (band (band (band (band (band (band (band (band (band (band (band (band (band (band (band (band (band (band (band (band (band (band (band (band (band (band (band (band (band (band (band cf0 pf1) pf2) cf3) cf4) cf5) pf6) cf7) pf8) cf9) cf10) cf11) cf12) cf13) cf14) cf15) cf16) cf17) cf18) cf19) cf20) cf21) pf22) cf23) pf24) pf25) pf26) pf27) cf28) cf29) cf30) cf31)
theorem inst : Try.f5.isInstance Try.prog Rows.fnExactIrOkRow.origin Rows.fnExactIrOkRow.targs := of_decide_eq_true (by kernel_rfl)
theorem wrap_ : Try.f5.isWrapper Try.prog Rows.fnExactIrOkRow.wrapper Rows.fnExactIrOkRow.mainSum := by
  unfold Func.isWrapper
  rw [if_neg (by decide +kernel)]
  exact ⟨rfl, rfl⟩

theorem over : Rows.fnExactIrOkRow.holds Try.pinned (OpenSpec.ofChange Rows.fnExactIrOkSpec) :=
  OpenClaim.holds_of_wide 5 Try.f5 rfl rfl rfl rfl rfl rfl rfl ⟨rfl, rfl, rfl, rfl, rfl⟩ rfl rfl rfl rfl rfl (by as_aux_lemma => kernel_rfl) Try.func5 closed inst wrap_
    (fun os started H enc _ => lifted os started H enc)

theorem proved : Rows.FnExactIrOkSaid := over
#print axioms proved
end Go.Proofs.Ytcjeeggffeoilaa.fnExactIrOk
