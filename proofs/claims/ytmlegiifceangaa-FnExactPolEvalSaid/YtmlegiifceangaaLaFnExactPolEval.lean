/- The law FnExactPolEval: PolEval returns what the reference's PolEval returns, for every sum and words, and leaves both as they are. Conditions: none. -/
import Derived.Test.YtmlegiifceangaaRows
import Derived.WalkKit
import Derived.ProofKit
import Derived.OpenShut
import Derived.ShutString
import Derived.ChangeOld
import Derived.Below
import Derived.Carry
import Derived.Test.YtmlegiifceangaaF
import Derived.Test.YtmlegiifceangaaK
import Derived.Test.YtmlegiifceangaaV
import Derived.Test.YtmlegiifceangaaE
import Derived.Deep.RegionHeld3
namespace Go.Proofs.Ytmlegiifceangaa.fnExactPolEval
open Go.ChangeShapes Go.WideShapes Go.ChangeAt Go.RowKit
set_option linter.unusedVariables false
set_option linter.unusedSimpArgs false

theorem walk (A0 : Option Addr) (k0 : Nat) (ms0 : List Mn) (A1 : Option Addr) (k1 : Nat) (xs1 : List Int) (w : World) (h0 : AM w A0 ms0) (s0 : SzA ms0) (h1 : AI w A1 xs1) (s1 : xs1.length ≤ 9223372036854775807) :
    Calls Try.prog 12 #[.agg #[.slice A0 ms0.length k0], .slice A1 xs1.length k1] w fun e w' => e = .returned (.bool true) ∧ Ext w w' := by
  by_cases hz : (1048576 : Int) < xs1.length
  · go_enter Try.func12, Try.ntmps12
    go_wp2
    go_ret
    exact ⟨rfl, (by repeat (first | with_reducible assumption | with_reducible exact Ext.refl _ | with_reducible apply Ext.drewN | with_reducible apply Ext.drew | with_reducible apply Ext.alloc | with_reducible refine Ext.set ?_ (by first | (simp; done) | (simp; omega)) _ | with_reducible refine Ext.next ?_ (by with_reducible assumption)))⟩
  have hv1 : xs1.length ≤ 1048576 := by omega
  have hv2 : xs1.length < 4611686018427387904 := by omega
  by_cases hq : (1048576 : Int) < totM ms0
  · have e1 := hid (szF_lt hq)
    have hb : szF 1048576 (totM ms0) < 0 := by rw [szF_lt hq]; omega
    go_enter Try.func12, Try.ntmps12
    go_wp2_with fail
    refine (szPoly _ _ _ _ _ (h0.ext (by repeat (first | with_reducible assumption | with_reducible exact Ext.refl _ | with_reducible apply Ext.drewN | with_reducible apply Ext.drew | with_reducible apply Ext.alloc | with_reducible refine Ext.set ?_ (by first | (simp; done) | (simp; omega)) _ | with_reducible refine Ext.next ?_ (by with_reducible assumption)))) s0 (by omega) (by omega)).mono ?_
    rintro e w1 ⟨rfl, hw1⟩
    go_wp2
    go_ret
    exact ⟨rfl, (by repeat (first | with_reducible assumption | with_reducible exact Ext.refl _ | with_reducible apply Ext.drewN | with_reducible apply Ext.drew | with_reducible apply Ext.alloc | with_reducible refine Ext.set ?_ (by first | (simp; done) | (simp; omega)) _ | with_reducible refine Ext.next ?_ (by with_reducible assumption)))⟩
  · have hb : 0 ≤ szF 1048576 (totM ms0) := by rw [szF_ge (by omega)]; omega
    have ht : totM ms0 ≤ 1048576 := by omega
    obtain ⟨hn, hx⟩ := tot_one ht
    clear hq
    go_enter Try.func12, Try.ntmps12
    go_wp2_with fail
    refine (szPoly _ _ _ _ _ (h0.ext (by repeat (first | with_reducible assumption | with_reducible exact Ext.refl _ | with_reducible apply Ext.drewN | with_reducible apply Ext.drew | with_reducible apply Ext.alloc | with_reducible refine Ext.set ?_ (by first | (simp; done) | (simp; omega)) _ | with_reducible refine Ext.next ?_ (by with_reducible assumption)))) s0 (by omega) (by omega)).mono ?_
    rintro e w1 ⟨rfl, hw1⟩
    have c1 : w1.cell? ⟨w.heap.size, 0, none⟩ = some (.slice A0 ms0.length k0) := keep hw1 (by go_simp)
    go_wp2_with fail
    refine (toPoly _ _ _ _ (h0.ext (by repeat (first | with_reducible assumption | with_reducible exact Ext.refl _ | with_reducible apply Ext.drewN | with_reducible apply Ext.drew | with_reducible apply Ext.alloc | with_reducible refine Ext.set ?_ (by first | (simp; done) | (simp; omega)) _ | with_reducible refine Ext.next ?_ (by with_reducible assumption)))) hn hx).mono ?_
    rintro e w2 ⟨A1, k1, ms1, rfl, hd1, ho1, hw2⟩
    have HD1 := hid hd1
    have hs1 := SzM.of_dat hd1 ht
    clear hd1
    go_wp2_with fail
    refine (toIntS _ _ _ _ (h1.ext (by repeat (first | with_reducible assumption | with_reducible exact Ext.refl _ | with_reducible apply Ext.drewN | with_reducible apply Ext.drew | with_reducible apply Ext.alloc | with_reducible refine Ext.set ?_ (by first | (simp; done) | (simp; omega)) _ | with_reducible refine Ext.next ?_ (by with_reducible assumption)))) hv1).mono ?_
    rintro e w3 ⟨A3, k3, rfl, ho3, hw3⟩
    go_wp2_with fail
    refine (specPolEval _ _ _ _ _ _ _ (ho1.rm.ext (by repeat (first | with_reducible assumption | with_reducible exact Ext.refl _ | with_reducible apply Ext.drewN | with_reducible apply Ext.drew | with_reducible apply Ext.alloc | with_reducible refine Ext.set ?_ (by first | (simp; done) | (simp; omega)) _ | with_reducible refine Ext.next ?_ (by with_reducible assumption)))) hs1 ho3.ri hv2).mono ?_
    rintro e w5 ⟨rfl, hw5⟩
    have c3 := keep hw5 (keep hw3 (keep hw2 c1))
    go_wp2_with fail
    refine (toPoly _ _ _ _ (h0.ext (by repeat (first | with_reducible assumption | with_reducible exact Ext.refl _ | with_reducible apply Ext.drewN | with_reducible apply Ext.drew | with_reducible apply Ext.alloc | with_reducible refine Ext.set ?_ (by first | (simp; done) | (simp; omega)) _ | with_reducible refine Ext.next ?_ (by with_reducible assumption)))) hn hx).mono ?_
    rintro e w4 ⟨A2, k2, ms2, rfl, hd2, ho2, hw4⟩
    have HD2 := hid hd2
    have hs2 := SzM.of_dat hd2 ht
    clear hd2
    have c4 := keep hw4 c3
    have l4 := World.block_lt_of_cell? _ _ c4
    simp only at l4
    go_wp2_with fail
    refine (toIntS _ _ _ _ (h1.ext (by repeat (first | with_reducible assumption | with_reducible exact Ext.refl _ | with_reducible apply Ext.drewN | with_reducible apply Ext.drew | with_reducible apply Ext.alloc | with_reducible refine Ext.set ?_ (by first | (simp; done) | (simp; omega)) _ | with_reducible refine Ext.next ?_ (by with_reducible assumption)))) hv1).mono ?_
    rintro e w6 ⟨A6, k6, rfl, ho6, hw6⟩
    have d6 : w6.cell? ⟨w4.heap.size, 0, none⟩ = some (.slice A2 ms2.length k2) := keep hw6 (by go_simp)
    have l6 := World.block_lt_of_cell? _ _ d6
    simp only at l6
    go_wp2_with fail
    have e2 : Hid (polEval (ms2.map Mn.dat) xs1 = polEval (ms1.map Mn.dat) xs1) := by rw [HD1.out, HD2.out]; exact rfl
    refine (implPolEval _ _ _ _ _ _ _ (ho2.rm.ext (by repeat (first | with_reducible assumption | with_reducible exact Ext.refl _ | with_reducible apply Ext.drewN | with_reducible apply Ext.drew | with_reducible apply Ext.alloc | with_reducible refine Ext.set ?_ (by first | (simp; done) | (simp; omega)) _ | with_reducible refine Ext.next ?_ (by with_reducible assumption)))) hs2 (ho6.ri.ext (by repeat (first | with_reducible assumption | with_reducible exact Ext.refl _ | with_reducible apply Ext.drewN | with_reducible apply Ext.drew | with_reducible apply Ext.alloc | with_reducible refine Ext.set ?_ (by first | (simp; done) | (simp; omega)) _ | with_reducible refine Ext.next ?_ (by with_reducible assumption)))) hv2).mono ?_
    rintro e w7 ⟨rfl, hw7⟩
    rw [e2.out]
    have d7 : w7.cell? ⟨w4.heap.size, 0, none⟩ = some (.slice A2 ms2.length k2) := keep hw7 d6
    have c7 : w7.cell? ⟨w.heap.size, 0, none⟩ = some (.slice A0 ms0.length k0) := by (repeat (first | with_reducible assumption | with_reducible refine keep (Ext.alloc (Ext.refl _) _) ?_ | with_reducible refine keep (Ext.drew (Ext.refl _)) ?_ | with_reducible refine keep (Ext.drewN (Ext.refl _) _) ?_ | with_reducible refine keep (by with_reducible assumption) ?_))
    clear c1 c3 c4 d6 hb
    go_wp2
    go_region_held3 (fun w' => w'.cell? ⟨w4.heap.size, 0, none⟩ = some (.slice A2 ms2.length k2) ∧ w'.cell? ⟨w.heap.size, 0, none⟩ = some (.slice A0 ms0.length k0)) (refine ⟨?_, ?_⟩ <;> ((repeat (first | with_reducible assumption | with_reducible refine keep (Ext.alloc (Ext.refl _) _) ?_ | with_reducible refine keep (Ext.drew (Ext.refl _)) ?_ | with_reducible refine keep (Ext.drewN (Ext.refl _) _) ?_ | with_reducible refine keep (by with_reducible assumption) ?_)); done)) (first | (go_at_call 51; refine (toPoly _ _ _ _ (h0.ext (by repeat (first | with_reducible assumption | with_reducible exact Ext.refl _ | with_reducible apply Ext.drewN | with_reducible apply Ext.drew | with_reducible apply Ext.alloc | with_reducible refine Ext.set ?_ (by first | (simp; done) | (simp; omega)) _ | with_reducible refine Ext.next ?_ (by with_reducible assumption)))) hn hx).mono ?_; rintro e w8 ⟨A3', k3', ms3, rfl, hd3, ho8, hw8⟩; have HD3 := hid hd3; clear hd3) | (go_at_call 42; refine (eqPoly _ _ _ _ _ _ ms2 ms3 _ (ho2.rm.ext (by repeat (first | with_reducible assumption | with_reducible exact Ext.refl _ | with_reducible apply Ext.drewN | with_reducible apply Ext.drew | with_reducible apply Ext.alloc | with_reducible refine Ext.set ?_ (by first | (simp; done) | (simp; omega)) _ | with_reducible refine Ext.next ?_ (by with_reducible assumption)))) (ho8.rm.ext (by repeat (first | with_reducible assumption | with_reducible exact Ext.refl _ | with_reducible apply Ext.drewN | with_reducible apply Ext.drew | with_reducible apply Ext.alloc | with_reducible refine Ext.set ?_ (by first | (simp; done) | (simp; omega)) _ | with_reducible refine Ext.next ?_ (by with_reducible assumption)))) (HD2.out.trans HD3.out.symm) rfl rfl hs2).mono ?_; rintro e w9 ⟨rfl, hw9⟩))
    go_wp2_with fail
    refine (toIntS _ _ _ _ (h1.ext (by repeat (first | with_reducible assumption | with_reducible exact Ext.refl _ | with_reducible apply Ext.drewN | with_reducible apply Ext.drew | with_reducible apply Ext.alloc | with_reducible refine Ext.set ?_ (by first | (simp; done) | (simp; omega)) _ | with_reducible refine Ext.next ?_ (by with_reducible assumption)))) hv1).mono ?_
    rintro e w10 ⟨A10, k10, rfl, ho10, hw10⟩
    go_wp2_with fail
    refine (eqIntS _ _ _ _ _ xs1 _ (ho6.ri.ext (by repeat (first | with_reducible assumption | with_reducible exact Ext.refl _ | with_reducible apply Ext.drewN | with_reducible apply Ext.drew | with_reducible apply Ext.alloc | with_reducible refine Ext.set ?_ (by first | (simp; done) | (simp; omega)) _ | with_reducible refine Ext.next ?_ (by with_reducible assumption)))) (ho10.ri.ext (by repeat (first | with_reducible assumption | with_reducible exact Ext.refl _ | with_reducible apply Ext.drewN | with_reducible apply Ext.drew | with_reducible apply Ext.alloc | with_reducible refine Ext.set ?_ (by first | (simp; done) | (simp; omega)) _ | with_reducible refine Ext.next ?_ (by with_reducible assumption)))) rfl hv2).mono ?_
    rintro e w11 ⟨rfl, hw11⟩
    go_wp2
    go_ret
    exact ⟨rfl, (by repeat (first | with_reducible assumption | with_reducible exact Ext.refl _ | with_reducible apply Ext.drewN | with_reducible apply Ext.drew | with_reducible apply Ext.alloc | with_reducible refine Ext.set ?_ (by first | (simp; done) | (simp; omega)) _ | with_reducible refine Ext.next ?_ (by with_reducible assumption)))⟩

set_option maxRecDepth 100000 in
theorem lifted (os : Os) (started : os.Started) (H : Type) (enc : TypeId × Value → H) :
    ReturnsInHanded {} Try.checked os 12 .any (Rows.fnExactPolEvalSpec.pre6 enc Try.prog Try.f12 Rows.fnExactPolEvalRow.domain false) (Rows.fnExactPolEvalSpec.post enc Try.prog Try.f12 false true false false) := by
  refine returnsInHanded_of_change (C := Try.checked) ownKnob_ started (by kernel_rfl) Try.func12
    (ChangeSpec.witness6 (enc := enc) (C := Try.checked) false ⟨#[], #[.agg #[.slice none 0 0], .slice none 0 0], []⟩ 8 (by kernel_rfl) (by kernel_rfl) (by kernel_rfl) (by kernel_rfl)) ?_
  intro W base args ds gs before hval0 hW hcnd _
  have hval : ∀ (j : Nat) t v, Try.f12.params[j]? = some t → args[j]? = some v → Value.okWide Try.prog W .any base t v := hval0
  have hW' := hW
  obtain ⟨p, q, hA0, hV, rfl, hfz, hnd⟩ := hW
  have hA : DataW.TrodAll enc Try.prog W 0 (fun _ => true) true Try.f12.params.toList args.toList ds p := hA0
  rw [Try.params12] at hA hval
  obtain ⟨v0, vs0, d0, ds0, p0, q0, hargs, rfl, rfl, g0, r0⟩ := trodAll_cons hA
  obtain ⟨v1, vs1, d1, ds1, p1, q1, rfl, rfl, rfl, g1, r1⟩ := trodAll_cons r0
  obtain ⟨rfl, rfl, rfl⟩ := trodAll_nil r1
  obtain rfl : args = #[v0, v1] := by cases args; simp_all
  obtain ⟨rfl, rfl⟩ := trodVars_none hV
  have lt0 : ∀ x ∈ p0, x.block < W.heap.size := by obtain ⟨m, hm⟩ := g0; exact DataW.trod_lt m _ _ _ hm
  obtain ⟨A0, k0, ms0, e0, h0, s0⟩ := read_poly (hval 0 48 v0 rfl rfl) g0
  subst e0
  have lt1 : ∀ x ∈ p1, x.block < W.heap.size := by obtain ⟨m, hm⟩ := g1; exact DataW.trod_lt m _ _ _ hm
  obtain ⟨A1, k1, xs1, e1, h1, s1⟩ := read_ints (hval 1 28 v1 rfl rfl) g1
  subst e1
  clear hA0 hval0
  refine (walk A0 k0 ms0 A1 k1 xs1 W h0 s0 h1 s1).mono fun e W' ⟨he, bel⟩ => ?_
  subst he
  exact ⟨_, rfl, _, _, _, [], _, [], hW', trodAll_mk1 (shut_bool Try.underlying4 _), (trodAll_cons_mk (Below.trod laidOut_ (by kernel_rfl) (of_decide_eq_true (by kernel_rfl)) g0 bel.out lt0) (trodAll_cons_mk (Below.trod laidOut_ (by kernel_rfl) (of_decide_eq_true (by kernel_rfl)) g1 bel.out lt1) trodAll_mk0)), rfl, bel.out.frame _, fun h => by cases h⟩
theorem cf0 : (fun (P : Program) (f : FuncId) (fn : Func) (s : ChangeSpec) (c : OpenClaim) => (c.wf (OpenSpec.ofChange s) : Bool)) Try.prog 12 Try.f12 Rows.fnExactPolEvalSpec Rows.fnExactPolEvalRow = true := by kernel_rfl
theorem cf3 : (fun (P : Program) (f : FuncId) (fn : Func) (s : ChangeSpec) (c : OpenClaim) => (fn.params.all (P.readableRec ·) : Bool)) Try.prog 12 Try.f12 Rows.fnExactPolEvalSpec Rows.fnExactPolEvalRow = true := by kernel_rfl
theorem cf4 : (fun (P : Program) (f : FuncId) (fn : Func) (s : ChangeSpec) (c : OpenClaim) => (namedTie P c.named s.vars : Bool)) Try.prog 12 Try.f12 Rows.fnExactPolEvalSpec Rows.fnExactPolEvalRow = true := by kernel_rfl
theorem cf5 : (fun (P : Program) (f : FuncId) (fn : Func) (s : ChangeSpec) (c : OpenClaim) => ((c.stops == []) : Bool)) Try.prog 12 Try.f12 Rows.fnExactPolEvalSpec Rows.fnExactPolEvalRow = true := by kernel_rfl
theorem cf7 : (fun (P : Program) (f : FuncId) (fn : Func) (s : ChangeSpec) (c : OpenClaim) => ((c.knobs == []) : Bool)) Try.prog 12 Try.f12 Rows.fnExactPolEvalSpec Rows.fnExactPolEvalRow = true := by kernel_rfl
theorem cf9 : (fun (P : Program) (f : FuncId) (fn : Func) (s : ChangeSpec) (c : OpenClaim) => ((c.inPlace == P.inPlace f) : Bool)) Try.prog 12 Try.f12 Rows.fnExactPolEvalSpec Rows.fnExactPolEvalRow = true := by kernel_rfl
theorem cf10 : (fun (P : Program) (f : FuncId) (fn : Func) (s : ChangeSpec) (c : OpenClaim) => ((c.unfollowed == P.unfollowed f) : Bool)) Try.prog 12 Try.f12 Rows.fnExactPolEvalSpec Rows.fnExactPolEvalRow = true := by kernel_rfl
theorem cf11 : (fun (P : Program) (f : FuncId) (fn : Func) (s : ChangeSpec) (c : OpenClaim) => ((c.recurses == P.recurses f) : Bool)) Try.prog 12 Try.f12 Rows.fnExactPolEvalSpec Rows.fnExactPolEvalRow = true := by kernel_rfl
theorem cf12 : (fun (P : Program) (f : FuncId) (fn : Func) (s : ChangeSpec) (c : OpenClaim) => ((c.named == P.varsNamed f) : Bool)) Try.prog 12 Try.f12 Rows.fnExactPolEvalSpec Rows.fnExactPolEvalRow = true := by kernel_rfl
theorem cf13 : (fun (P : Program) (f : FuncId) (fn : Func) (s : ChangeSpec) (c : OpenClaim) => ((c.maps == (fn.params.toList ++ s.plain.varTypes P).any (P.mapsRec ·)) : Bool)) Try.prog 12 Try.f12 Rows.fnExactPolEvalSpec Rows.fnExactPolEvalRow = true := by kernel_rfl
theorem cf14 : (fun (P : Program) (f : FuncId) (fn : Func) (s : ChangeSpec) (c : OpenClaim) => ((c.ifaces == (fn.params.toList ++ s.plain.varTypes P).any (P.ifacesRec ·)) : Bool)) Try.prog 12 Try.f12 Rows.fnExactPolEvalSpec Rows.fnExactPolEvalRow = true := by kernel_rfl
theorem cf15 : (fun (P : Program) (f : FuncId) (fn : Func) (s : ChangeSpec) (c : OpenClaim) => ((c.mapsOut == P.mapsAmong fn.resultTypes.toList) : Bool)) Try.prog 12 Try.f12 Rows.fnExactPolEvalSpec Rows.fnExactPolEvalRow = true := by kernel_rfl
theorem cf16 : (fun (P : Program) (f : FuncId) (fn : Func) (s : ChangeSpec) (c : OpenClaim) => ((c.loops == (fn.params.toList ++ s.plain.varTypes P).any (P.loopsFrom ·)) : Bool)) Try.prog 12 Try.f12 Rows.fnExactPolEvalSpec Rows.fnExactPolEvalRow = true := by kernel_rfl
theorem cf17 : (fun (P : Program) (f : FuncId) (fn : Func) (s : ChangeSpec) (c : OpenClaim) => ((c.wideKeys == (fn.params.toList ++ s.plain.varTypes P ++ fn.resultTypes.toList).any (P.wideKeysFrom ·)) : Bool)) Try.prog 12 Try.f12 Rows.fnExactPolEvalSpec Rows.fnExactPolEvalRow = true := by kernel_rfl
theorem cf18 : (fun (P : Program) (f : FuncId) (fn : Func) (s : ChangeSpec) (c : OpenClaim) => (s.vars.all (P.varReadable ·) : Bool)) Try.prog 12 Try.f12 Rows.fnExactPolEvalSpec Rows.fnExactPolEvalRow = true := by kernel_rfl
theorem cf19 : (fun (P : Program) (f : FuncId) (fn : Func) (s : ChangeSpec) (c : OpenClaim) => (fn.resultTypes.all (fun t => P.readableRec t && decide (t < P.types.size)) : Bool)) Try.prog 12 Try.f12 Rows.fnExactPolEvalSpec Rows.fnExactPolEvalRow = true := by kernel_rfl
theorem cf20 : (fun (P : Program) (f : FuncId) (fn : Func) (s : ChangeSpec) (c : OpenClaim) => ((c.ifacesOut == fn.resultTypes.toList.any (P.ifacesRec ·)) : Bool)) Try.prog 12 Try.f12 Rows.fnExactPolEvalSpec Rows.fnExactPolEvalRow = true := by kernel_rfl
theorem cf21 : (fun (P : Program) (f : FuncId) (fn : Func) (s : ChangeSpec) (c : OpenClaim) => ((c.loopsOut == fn.resultTypes.toList.any (P.loopsFrom ·)) : Bool)) Try.prog 12 Try.f12 Rows.fnExactPolEvalSpec Rows.fnExactPolEvalRow = true := by kernel_rfl
theorem cf23 : (fun (P : Program) (f : FuncId) (fn : Func) (s : ChangeSpec) (c : OpenClaim) => (c.shortTexts.isNone : Bool)) Try.prog 12 Try.f12 Rows.fnExactPolEvalSpec Rows.fnExactPolEvalRow = true := by kernel_rfl
theorem cf28 : (fun (P : Program) (f : FuncId) (fn : Func) (s : ChangeSpec) (c : OpenClaim) => ((c.kinds == (if c.domain.isEmpty then [] else fn.params.toList.map fun t => match P.underlying t with | some (.int k) => some k | _ => none)) : Bool)) Try.prog 12 Try.f12 Rows.fnExactPolEvalSpec Rows.fnExactPolEvalRow = true := by kernel_rfl
theorem cf29 : (fun (P : Program) (f : FuncId) (fn : Func) (s : ChangeSpec) (c : OpenClaim) => ((c.pinned == c.pinnedBy) : Bool)) Try.prog 12 Try.f12 Rows.fnExactPolEvalSpec Rows.fnExactPolEvalRow = true := by kernel_rfl
theorem cf30 : (fun (P : Program) (f : FuncId) (fn : Func) (s : ChangeSpec) (c : OpenClaim) => ((c.veiled == (fn.params.toList ++ s.plain.varTypes P ++ fn.resultTypes.toList).any (P.veiledRec ·)) : Bool)) Try.prog 12 Try.f12 Rows.fnExactPolEvalSpec Rows.fnExactPolEvalRow = true := by kernel_rfl
theorem cf31 : (fun (P : Program) (f : FuncId) (fn : Func) (s : ChangeSpec) (c : OpenClaim) => (c.veiledFits P fn.params.toList (fn.params.toList ++ s.plain.varTypes P ++ fn.resultTypes.toList) : Bool)) Try.prog 12 Try.f12 Rows.fnExactPolEvalSpec Rows.fnExactPolEvalRow = true := by kernel_rfl

set_option maxRecDepth 100000 in
theorem closed : joinedFacts Try.prog 12 Try.f12 Rows.fnExactPolEvalSpec Rows.fnExactPolEvalRow = true := by
  unfold joinedFacts
  exact (band (band (band (band (band (band (band (band (band (band (band (band (band (band (band (band (band (band (band (band (band (band (band (band (band (band (band (band (band (band (band cf0 pf1) pf2) cf3) cf4) cf5) pf6) cf7) pf8) cf9) cf10) cf11) cf12) cf13) cf14) cf15) cf16) cf17) cf18) cf19) cf20) cf21) pf22) cf23) pf24) pf25) pf26) pf27) cf28) cf29) cf30) cf31)
theorem inst : Try.f12.isInstance Try.prog Rows.fnExactPolEvalRow.origin Rows.fnExactPolEvalRow.targs := of_decide_eq_true (by kernel_rfl)
theorem wrap_ : Try.f12.isWrapper Try.prog Rows.fnExactPolEvalRow.wrapper Rows.fnExactPolEvalRow.mainSum := by
  unfold Func.isWrapper
  rw [if_neg (by decide +kernel)]
  exact ⟨rfl, rfl⟩

theorem over : Rows.fnExactPolEvalRow.holds Try.pinned (OpenSpec.ofChange Rows.fnExactPolEvalSpec) :=
  OpenClaim.holds_of_wide 12 Try.f12 rfl rfl rfl rfl rfl rfl rfl ⟨rfl, rfl, rfl, rfl, rfl⟩ rfl rfl rfl rfl rfl (by as_aux_lemma => kernel_rfl) Try.func12 closed inst wrap_
    (fun os started H enc _ => lifted os started H enc)

theorem proved : Rows.FnExactPolEvalSaid := over
#print axioms proved
end Go.Proofs.Ytmlegiifceangaa.fnExactPolEval
