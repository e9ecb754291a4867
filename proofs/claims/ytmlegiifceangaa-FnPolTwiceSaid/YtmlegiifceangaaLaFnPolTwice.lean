/- The law FnPolTwice: a sum that is ok and itself is twice it, and with it once more three times it. Conditions: none. -/
import Derived.Test.YtmlegiifceangaaRows
import Derived.WalkKit
import Derived.ProofKit
import Derived.OpenShut
import Derived.ShutString
import Derived.ChangeOld
import Derived.Below
import Derived.Carry
import Derived.Test.YtmlegiifceangaaF
import Derived.Test.YtmlegiifceangaaK
import Derived.Test.YtmlegiifceangaaPG
import Derived.Test.YtmlegiifceangaaPH
import Derived.Deep.RegionHeld3
namespace Go.Proofs.Ytmlegiifceangaa.fnPolTwice
open Go.ChangeShapes Go.WideShapes Go.ChangeAt Go.RowKit
set_option linter.unusedVariables false
set_option linter.unusedSimpArgs false

set_option maxRecDepth 100000 in
set_option maxHeartbeats 2000000 in
theorem walk (A0 : Option Addr) (k0 : Nat) (bs0 : List Int) (w : World) (h0 : AB w A0 bs0) (s0 : bs0.length ≤ 9223372036854775807 ∧ bs0.length ≤ k0) :
    Calls Try.prog 22 #[.slice A0 bs0.length k0] w fun e w' => e = .returned (.bool true) ∧ Ext w w' := by
  by_cases hz : (1048576 : Int) < bs0.length
  · go_enter Try.func22, Try.ntmps22
    go_wp2
    go_ret
    exact ⟨rfl, (by repeat (first | with_reducible assumption | with_reducible exact Ext.refl _ | with_reducible apply Ext.drewN | with_reducible apply Ext.drew | with_reducible apply Ext.alloc | with_reducible refine Ext.set ?_ (by first | (simp; done) | (simp; omega)) _ | with_reducible refine Ext.next ?_ (by with_reducible assumption)))⟩
  go_enter Try.func22, Try.ntmps22
  go_wp2_with fail
  refine (drawScale _ _ _ _ h0 s0.1 s0.2).mono ?_
  rintro e w1 ⟨A1, k1, ms1, v, rfl, G1, hv, hw1⟩
  have hs1 := G1.szM
  have HA := hid G1
  clear G1 hv
  cases ho : polOk (ms1.map Mn.dat)
  · have E1 : Hid (polAdd (ms1.map Mn.dat) (ms1.map Mn.dat) = ([], false)) := hid (polAdd_no (by rw [ho]; rfl))
    have HO := hid ho
    clear ho
    go_wp2_with fail
    refine (implPolAdd _ _ _ _ ms1 ms1 _ (HA.out.rn.ext (by repeat (first | with_reducible assumption | with_reducible exact Ext.refl _ | with_reducible apply Ext.drewN | with_reducible apply Ext.drew | with_reducible apply Ext.alloc | with_reducible refine Ext.set ?_ (by first | (simp; done) | (simp; omega)) _ | with_reducible refine Ext.next ?_ (by with_reducible assumption)))) (HA.out.rn.ext (by repeat (first | with_reducible assumption | with_reducible exact Ext.refl _ | with_reducible apply Ext.drewN | with_reducible apply Ext.drew | with_reducible apply Ext.alloc | with_reducible refine Ext.set ?_ (by first | (simp; done) | (simp; omega)) _ | with_reducible refine Ext.next ?_ (by with_reducible assumption)))) hs1 hs1).mono ?_
    rintro e w2 ⟨A2, k2, ms2, rfl, hd2, ho2, hw2⟩
    rw [E1.out]
    have c1 : w2.cell? ⟨w1.heap.size, 0, none⟩ = some (.slice A1 ms1.length k1) := keep hw2 (by go_simp)
    have l1 := World.block_lt_of_cell? _ _ c1
    simp only at l1
    clear hd2 ho2
    go_wp2_with fail
    refine (specPolOk _ _ ms1 _ (HA.out.rm.ext (by repeat (first | with_reducible assumption | with_reducible exact Ext.refl _ | with_reducible apply Ext.drewN | with_reducible apply Ext.drew | with_reducible apply Ext.alloc | with_reducible refine Ext.set ?_ (by first | (simp; done) | (simp; omega)) _ | with_reducible refine Ext.next ?_ (by with_reducible assumption)))) hs1).mono ?_
    rintro e w3 ⟨rfl, hw3⟩
    rw [HO.out]
    go_wp2_with (go_at_call 30; refine (laOk_ _).mono ?_; rintro e w' ⟨rfl, rfl⟩)
    go_ret
    exact ⟨rfl, (by repeat (first | with_reducible assumption | with_reducible exact Ext.refl _ | with_reducible apply Ext.drewN | with_reducible apply Ext.drew | with_reducible apply Ext.alloc | with_reducible refine Ext.set ?_ (by first | (simp; done) | (simp; omega)) _ | with_reducible refine Ext.next ?_ (by with_reducible assumption)))⟩
  · have E1 : Hid (polAdd (ms1.map Mn.dat) (ms1.map Mn.dat) = (polScale (ms1.map Mn.dat) 2, true)) := hid (add_twice ho)
    have E2 : Hid (polAdd (polScale (ms1.map Mn.dat) 2) (ms1.map Mn.dat) = (polScale (ms1.map Mn.dat) 3, true)) := hid (add_thrice ho)
    have HO := hid ho
    clear ho
    go_wp2_with fail
    refine (implPolAdd _ _ _ _ ms1 ms1 _ (HA.out.rn.ext (by repeat (first | with_reducible assumption | with_reducible exact Ext.refl _ | with_reducible apply Ext.drewN | with_reducible apply Ext.drew | with_reducible apply Ext.alloc | with_reducible refine Ext.set ?_ (by first | (simp; done) | (simp; omega)) _ | with_reducible refine Ext.next ?_ (by with_reducible assumption)))) (HA.out.rn.ext (by repeat (first | with_reducible assumption | with_reducible exact Ext.refl _ | with_reducible apply Ext.drewN | with_reducible apply Ext.drew | with_reducible apply Ext.alloc | with_reducible refine Ext.set ?_ (by first | (simp; done) | (simp; omega)) _ | with_reducible refine Ext.next ?_ (by with_reducible assumption)))) hs1 hs1).mono ?_
    rintro e w2 ⟨A2, k2, ms2, rfl, hd2, ho2, hw2⟩
    rw [E1.out] at hd2 ⊢
    have c1 : w2.cell? ⟨w1.heap.size, 0, none⟩ = some (.slice A1 ms1.length k1) := keep hw2 (by go_simp)
    have HD2 := hid hd2
    have hs2 : SzM ms2 := (SzP.of_ok (ms := ms2) (by rw [hd2]; exact polOk_polScale _ _)).szM (by decide)
    have HA2 := hid ho2
    have l1 := World.block_lt_of_cell? _ _ c1
    simp only at l1
    clear hd2 ho2
    go_wp2_with fail
    refine (specPolOk _ _ ms1 _ (HA.out.rm.ext (by repeat (first | with_reducible assumption | with_reducible exact Ext.refl _ | with_reducible apply Ext.drewN | with_reducible apply Ext.drew | with_reducible apply Ext.alloc | with_reducible refine Ext.set ?_ (by first | (simp; done) | (simp; omega)) _ | with_reducible refine Ext.next ?_ (by with_reducible assumption)))) hs1).mono ?_
    rintro e w3 ⟨rfl, hw3⟩
    rw [HO.out]
    have d1 : w3.cell? ⟨w1.heap.size, 0, none⟩ = some (.slice A1 ms1.length k1) := keep hw3 (by go_simp)
    have d2 : w3.cell? ⟨w2.heap.size, 0, none⟩ = some (.slice A2 ms2.length k2) := keep hw3 (by go_simp)
    clear c1
    go_wp2_with fail
    refine (implPolAdd _ _ _ _ ms2 ms1 _ (HA2.out.rn.ext (by repeat (first | with_reducible assumption | with_reducible exact Ext.refl _ | with_reducible apply Ext.drewN | with_reducible apply Ext.drew | with_reducible apply Ext.alloc | with_reducible refine Ext.set ?_ (by first | (simp; done) | (simp; omega)) _ | with_reducible refine Ext.next ?_ (by with_reducible assumption)))) (HA.out.rn.ext (by repeat (first | with_reducible assumption | with_reducible exact Ext.refl _ | with_reducible apply Ext.drewN | with_reducible apply Ext.drew | with_reducible apply Ext.alloc | with_reducible refine Ext.set ?_ (by first | (simp; done) | (simp; omega)) _ | with_reducible refine Ext.next ?_ (by with_reducible assumption)))) hs2 hs1).mono ?_
    rintro e w4 ⟨A4, k4, ms4, rfl, hd4, ho4, hw4⟩
    rw [HD2.out, E2.out] at hd4 ⊢
    have HD4 := hid hd4
    have hs4 : SzM ms4 := (SzP.of_ok (ms := ms4) (by rw [hd4]; exact polOk_polScale _ _)).szM (by decide)
    have HA4 := hid ho4
    have f1 := keep hw4 d1
    have f2 := keep hw4 d2
    have l1 := World.block_lt_of_cell? _ _ f1
    have l2 := World.block_lt_of_cell? _ _ f2
    simp only at l1 l2
    have HK : Hid (polOk (ms4.map Mn.dat) = true) := hid (by rw [hd4]; exact polOk_polScale _ _)
    clear hd4 ho4 d1 d2
    go_wp2
    have g1 : (w4.alloc (.cells #[.slice A4 ms4.length k4] 25)).cell? ⟨w1.heap.size, 0, none⟩ = some (.slice A1 ms1.length k1) := by go_simp
    have g2 : (w4.alloc (.cells #[.slice A4 ms4.length k4] 25)).cell? ⟨w2.heap.size, 0, none⟩ = some (.slice A2 ms2.length k2) := by go_simp
    have g4 : (w4.alloc (.cells #[.slice A4 ms4.length k4] 25)).cell? ⟨w4.heap.size, 0, none⟩ = some (.slice A4 ms4.length k4) := by go_simp
    go_region_held3 (fun w' => w'.cell? ⟨w1.heap.size, 0, none⟩ = some (.slice A1 ms1.length k1) ∧ w'.cell? ⟨w2.heap.size, 0, none⟩ = some (.slice A2 ms2.length k2) ∧ w'.cell? ⟨w4.heap.size, 0, none⟩ = some (.slice A4 ms4.length k4)) (refine ⟨?_, ?_, ?_⟩ <;> ((repeat (first | with_reducible assumption | with_reducible refine keep (Ext.alloc (Ext.refl _) _) ?_ | with_reducible refine keep (Ext.drew (Ext.refl _)) ?_ | with_reducible refine keep (Ext.drewN (Ext.refl _) _) ?_ | with_reducible refine keep (by with_reducible assumption) ?_)); done)) (first
      | (go_at_call_of 36 (Value.int .i64 2); (refine (implPolScale _ _ ms1 2 _ (HA.out.rn.ext (by repeat (first | with_reducible assumption | with_reducible exact Ext.refl _ | with_reducible apply Ext.drewN | with_reducible apply Ext.drew | with_reducible apply Ext.alloc | with_reducible refine Ext.set ?_ (by first | (simp; done) | (simp; omega)) _ | with_reducible refine Ext.next ?_ (by with_reducible assumption)))) hs1).mono ?_); (rintro e w5 ⟨A5, k5, ms5, rfl, hd5, ho5, hw5⟩); (have HD5 := hid hd5); (have HA5 := hid ho5); (have hs5 : SzM ms5 := (SzP.of_ok (ms := ms5) (by rw [hd5]; exact polOk_polScale _ _)).szM (by decide)); clear hd5 ho5)
      | (go_at_call_of 36 (Value.int .i64 3); (refine (implPolScale _ _ ms1 3 _ (HA.out.rn.ext (by repeat (first | with_reducible assumption | with_reducible exact Ext.refl _ | with_reducible apply Ext.drewN | with_reducible apply Ext.drew | with_reducible apply Ext.alloc | with_reducible refine Ext.set ?_ (by first | (simp; done) | (simp; omega)) _ | with_reducible refine Ext.next ?_ (by with_reducible assumption)))) hs1).mono ?_); (rintro e w7 ⟨A7, k7, ms7, rfl, hd7, ho7, hw7⟩); (have HD7 := hid hd7); (have HA7 := hid ho7); (have hs7 : SzM ms7 := (SzP.of_ok (ms := ms7) (by rw [hd7]; exact polOk_polScale _ _)).szM (by decide)); clear hd7 ho7)
      | (go_at_call_of 28 (Value.agg #[Value.slice A2 ms2.length k2]); (refine (laPoly_ _ _ _ _ ms2 ms5 _ (HA2.out.rm.ext (by repeat (first | with_reducible assumption | with_reducible exact Ext.refl _ | with_reducible apply Ext.drewN | with_reducible apply Ext.drew | with_reducible apply Ext.alloc | with_reducible refine Ext.set ?_ (by first | (simp; done) | (simp; omega)) _ | with_reducible refine Ext.next ?_ (by with_reducible assumption)))) (HA5.out.rm.ext (by repeat (first | with_reducible assumption | with_reducible exact Ext.refl _ | with_reducible apply Ext.drewN | with_reducible apply Ext.drew | with_reducible apply Ext.alloc | with_reducible refine Ext.set ?_ (by first | (simp; done) | (simp; omega)) _ | with_reducible refine Ext.next ?_ (by with_reducible assumption)))) hs2 hs5).mono ?_); (rintro e w6 ⟨rfl, hw6⟩); rw [decide_eq_true (show ms2.map Mn.dat = ms5.map Mn.dat by rw [HD2.out, HD5.out])])
      | (go_at_call_of 28 (Value.agg #[Value.slice A4 ms4.length k4]); (refine (laPoly_ _ _ _ _ ms4 ms7 _ (HA4.out.rm.ext (by repeat (first | with_reducible assumption | with_reducible exact Ext.refl _ | with_reducible apply Ext.drewN | with_reducible apply Ext.drew | with_reducible apply Ext.alloc | with_reducible refine Ext.set ?_ (by first | (simp; done) | (simp; omega)) _ | with_reducible refine Ext.next ?_ (by with_reducible assumption)))) (HA7.out.rm.ext (by repeat (first | with_reducible assumption | with_reducible exact Ext.refl _ | with_reducible apply Ext.drewN | with_reducible apply Ext.drew | with_reducible apply Ext.alloc | with_reducible refine Ext.set ?_ (by first | (simp; done) | (simp; omega)) _ | with_reducible refine Ext.next ?_ (by with_reducible assumption)))) hs4 hs7).mono ?_); (rintro e w8 ⟨rfl, hw8⟩); rw [decide_eq_true (show ms4.map Mn.dat = ms7.map Mn.dat by rw [HD4.out, HD7.out])])
      | (go_at_call 32; (refine (implPolOk _ _ ms4 _ (HA4.out.rm.ext (by repeat (first | with_reducible assumption | with_reducible exact Ext.refl _ | with_reducible apply Ext.drewN | with_reducible apply Ext.drew | with_reducible apply Ext.alloc | with_reducible refine Ext.set ?_ (by first | (simp; done) | (simp; omega)) _ | with_reducible refine Ext.next ?_ (by with_reducible assumption)))) hs4).mono ?_); (rintro e w9 ⟨rfl, hw9⟩); rw [HK.out]))
    all_goals
      go_wp2
      go_ret
      exact ⟨rfl, (by repeat (first | with_reducible assumption | with_reducible exact Ext.refl _ | with_reducible apply Ext.drewN | with_reducible apply Ext.drew | with_reducible apply Ext.alloc | with_reducible refine Ext.set ?_ (by first | (simp; done) | (simp; omega)) _ | with_reducible refine Ext.next ?_ (by with_reducible assumption)))⟩

set_option maxRecDepth 100000 in
theorem lifted (os : Os) (started : os.Started) (H : Type) (enc : TypeId × Value → H) :
    ReturnsInHanded {} Try.checked os 22 .any (Rows.fnPolTwiceSpec.pre6 enc Try.prog Try.f22 Rows.fnPolTwiceRow.domain false) (Rows.fnPolTwiceSpec.post enc Try.prog Try.f22 false true false false) := by
  refine returnsInHanded_of_change (C := Try.checked) ownKnob_ started (by kernel_rfl) Try.func22
    (ChangeSpec.witness6 (enc := enc) (C := Try.checked) false ⟨#[], #[.slice none 0 0], []⟩ 8 (by kernel_rfl) (by kernel_rfl) (by kernel_rfl) (by kernel_rfl)) ?_
  intro W base args ds gs before hval0 hW hcnd _
  have hval : ∀ (j : Nat) t v, Try.f22.params[j]? = some t → args[j]? = some v → Value.okWide Try.prog W .any base t v := hval0
  have hW' := hW
  obtain ⟨p, q, hA0, hV, rfl, hfz, hnd⟩ := hW
  have hA : DataW.TrodAll enc Try.prog W 0 (fun _ => true) true Try.f22.params.toList args.toList ds p := hA0
  rw [Try.params22] at hA hval
  obtain ⟨v0, vs0, d0, ds0, p0, q0, hargs, rfl, rfl, g0, r0⟩ := trodAll_cons hA
  obtain ⟨rfl, rfl, rfl⟩ := trodAll_nil r0
  obtain rfl : args = #[v0] := by cases args; simp_all
  obtain ⟨rfl, rfl⟩ := trodVars_none hV
  have lt0 : ∀ x ∈ p0, x.block < W.heap.size := by obtain ⟨m, hm⟩ := g0; exact DataW.trod_lt m _ _ _ hm
  obtain ⟨A0, k0, bs0, e0, h0, s0⟩ := read_bytes (hval 0 22 v0 rfl rfl) g0
  subst e0
  clear hA0 hval0
  refine (walk A0 k0 bs0 W h0 s0).mono fun e W' ⟨he, bel⟩ => ?_
  subst he
  exact ⟨_, rfl, _, _, _, [], _, [], hW', trodAll_mk1 (shut_bool Try.underlying4 _), (trodAll_cons_mk (Below.trod laidOut_ (by kernel_rfl) (of_decide_eq_true (by kernel_rfl)) g0 bel.out lt0) trodAll_mk0), rfl, bel.out.frame _, fun h => by cases h⟩
theorem cf0 : (fun (P : Program) (f : FuncId) (fn : Func) (s : ChangeSpec) (c : OpenClaim) => (c.wf (OpenSpec.ofChange s) : Bool)) Try.prog 22 Try.f22 Rows.fnPolTwiceSpec Rows.fnPolTwiceRow = true := by kernel_rfl
theorem cf3 : (fun (P : Program) (f : FuncId) (fn : Func) (s : ChangeSpec) (c : OpenClaim) => (fn.params.all (P.readableRec ·) : Bool)) Try.prog 22 Try.f22 Rows.fnPolTwiceSpec Rows.fnPolTwiceRow = true := by kernel_rfl
theorem cf4 : (fun (P : Program) (f : FuncId) (fn : Func) (s : ChangeSpec) (c : OpenClaim) => (namedTie P c.named s.vars : Bool)) Try.prog 22 Try.f22 Rows.fnPolTwiceSpec Rows.fnPolTwiceRow = true := by kernel_rfl
theorem cf5 : (fun (P : Program) (f : FuncId) (fn : Func) (s : ChangeSpec) (c : OpenClaim) => ((c.stops == []) : Bool)) Try.prog 22 Try.f22 Rows.fnPolTwiceSpec Rows.fnPolTwiceRow = true := by kernel_rfl
theorem cf7 : (fun (P : Program) (f : FuncId) (fn : Func) (s : ChangeSpec) (c : OpenClaim) => ((c.knobs == []) : Bool)) Try.prog 22 Try.f22 Rows.fnPolTwiceSpec Rows.fnPolTwiceRow = true := by kernel_rfl
theorem cf9 : (fun (P : Program) (f : FuncId) (fn : Func) (s : ChangeSpec) (c : OpenClaim) => ((c.inPlace == P.inPlace f) : Bool)) Try.prog 22 Try.f22 Rows.fnPolTwiceSpec Rows.fnPolTwiceRow = true := by kernel_rfl
theorem cf10 : (fun (P : Program) (f : FuncId) (fn : Func) (s : ChangeSpec) (c : OpenClaim) => ((c.unfollowed == P.unfollowed f) : Bool)) Try.prog 22 Try.f22 Rows.fnPolTwiceSpec Rows.fnPolTwiceRow = true := by kernel_rfl
theorem cf11 : (fun (P : Program) (f : FuncId) (fn : Func) (s : ChangeSpec) (c : OpenClaim) => ((c.recurses == P.recurses f) : Bool)) Try.prog 22 Try.f22 Rows.fnPolTwiceSpec Rows.fnPolTwiceRow = true := by kernel_rfl
theorem cf12 : (fun (P : Program) (f : FuncId) (fn : Func) (s : ChangeSpec) (c : OpenClaim) => ((c.named == P.varsNamed f) : Bool)) Try.prog 22 Try.f22 Rows.fnPolTwiceSpec Rows.fnPolTwiceRow = true := by kernel_rfl
theorem cf13 : (fun (P : Program) (f : FuncId) (fn : Func) (s : ChangeSpec) (c : OpenClaim) => ((c.maps == (fn.params.toList ++ s.plain.varTypes P).any (P.mapsRec ·)) : Bool)) Try.prog 22 Try.f22 Rows.fnPolTwiceSpec Rows.fnPolTwiceRow = true := by kernel_rfl
theorem cf14 : (fun (P : Program) (f : FuncId) (fn : Func) (s : ChangeSpec) (c : OpenClaim) => ((c.ifaces == (fn.params.toList ++ s.plain.varTypes P).any (P.ifacesRec ·)) : Bool)) Try.prog 22 Try.f22 Rows.fnPolTwiceSpec Rows.fnPolTwiceRow = true := by kernel_rfl
theorem cf15 : (fun (P : Program) (f : FuncId) (fn : Func) (s : ChangeSpec) (c : OpenClaim) => ((c.mapsOut == P.mapsAmong fn.resultTypes.toList) : Bool)) Try.prog 22 Try.f22 Rows.fnPolTwiceSpec Rows.fnPolTwiceRow = true := by kernel_rfl
theorem cf16 : (fun (P : Program) (f : FuncId) (fn : Func) (s : ChangeSpec) (c : OpenClaim) => ((c.loops == (fn.params.toList ++ s.plain.varTypes P).any (P.loopsFrom ·)) : Bool)) Try.prog 22 Try.f22 Rows.fnPolTwiceSpec Rows.fnPolTwiceRow = true := by kernel_rfl
theorem cf17 : (fun (P : Program) (f : FuncId) (fn : Func) (s : ChangeSpec) (c : OpenClaim) => ((c.wideKeys == (fn.params.toList ++ s.plain.varTypes P ++ fn.resultTypes.toList).any (P.wideKeysFrom ·)) : Bool)) Try.prog 22 Try.f22 Rows.fnPolTwiceSpec Rows.fnPolTwiceRow = true := by kernel_rfl
theorem cf18 : (fun (P : Program) (f : FuncId) (fn : Func) (s : ChangeSpec) (c : OpenClaim) => (s.vars.all (P.varReadable ·) : Bool)) Try.prog 22 Try.f22 Rows.fnPolTwiceSpec Rows.fnPolTwiceRow = true := by kernel_rfl
theorem cf19 : (fun (P : Program) (f : FuncId) (fn : Func) (s : ChangeSpec) (c : OpenClaim) => (fn.resultTypes.all (fun t => P.readableRec t && decide (t < P.types.size)) : Bool)) Try.prog 22 Try.f22 Rows.fnPolTwiceSpec Rows.fnPolTwiceRow = true := by kernel_rfl
theorem cf20 : (fun (P : Program) (f : FuncId) (fn : Func) (s : ChangeSpec) (c : OpenClaim) => ((c.ifacesOut == fn.resultTypes.toList.any (P.ifacesRec ·)) : Bool)) Try.prog 22 Try.f22 Rows.fnPolTwiceSpec Rows.fnPolTwiceRow = true := by kernel_rfl
theorem cf21 : (fun (P : Program) (f : FuncId) (fn : Func) (s : ChangeSpec) (c : OpenClaim) => ((c.loopsOut == fn.resultTypes.toList.any (P.loopsFrom ·)) : Bool)) Try.prog 22 Try.f22 Rows.fnPolTwiceSpec Rows.fnPolTwiceRow = true := by kernel_rfl
theorem cf23 : (fun (P : Program) (f : FuncId) (fn : Func) (s : ChangeSpec) (c : OpenClaim) => (c.shortTexts.isNone : Bool)) Try.prog 22 Try.f22 Rows.fnPolTwiceSpec Rows.fnPolTwiceRow = true := by kernel_rfl
theorem cf28 : (fun (P : Program) (f : FuncId) (fn : Func) (s : ChangeSpec) (c : OpenClaim) => ((c.kinds == (if c.domain.isEmpty then [] else fn.params.toList.map fun t => match P.underlying t with | some (.int k) => some k | _ => none)) : Bool)) Try.prog 22 Try.f22 Rows.fnPolTwiceSpec Rows.fnPolTwiceRow = true := by kernel_rfl
theorem cf29 : (fun (P : Program) (f : FuncId) (fn : Func) (s : ChangeSpec) (c : OpenClaim) => ((c.pinned == c.pinnedBy) : Bool)) Try.prog 22 Try.f22 Rows.fnPolTwiceSpec Rows.fnPolTwiceRow = true := by kernel_rfl
theorem cf30 : (fun (P : Program) (f : FuncId) (fn : Func) (s : ChangeSpec) (c : OpenClaim) => ((c.veiled == (fn.params.toList ++ s.plain.varTypes P ++ fn.resultTypes.toList).any (P.veiledRec ·)) : Bool)) Try.prog 22 Try.f22 Rows.fnPolTwiceSpec Rows.fnPolTwiceRow = true := by kernel_rfl
theorem cf31 : (fun (P : Program) (f : FuncId) (fn : Func) (s : ChangeSpec) (c : OpenClaim) => (c.veiledFits P fn.params.toList (fn.params.toList ++ s.plain.varTypes P ++ fn.resultTypes.toList) : Bool)) Try.prog 22 Try.f22 Rows.fnPolTwiceSpec Rows.fnPolTwiceRow = true := by kernel_rfl

set_option maxRecDepth 100000 in
theorem closed : joinedFacts Try.prog 22 Try.f22 Rows.fnPolTwiceSpec Rows.fnPolTwiceRow = true := by
  unfold joinedFacts
  exact (band (band (band (band (band (band (band (band (band (band (band (band (band (band (band (band (band (band (band (band (band (band (band (band (band (band (band (band (band (band (band cf0 pf1) pf2) cf3) cf4) cf5) pf6) cf7) pf8) cf9) cf10) cf11) cf12) cf13) cf14) cf15) cf16) cf17) cf18) cf19) cf20) cf21) pf22) cf23) pf24) pf25) pf26) pf27) cf28) cf29) cf30) cf31)
theorem inst : Try.f22.isInstance Try.prog Rows.fnPolTwiceRow.origin Rows.fnPolTwiceRow.targs := of_decide_eq_true (by kernel_rfl)
theorem wrap_ : Try.f22.isWrapper Try.prog Rows.fnPolTwiceRow.wrapper Rows.fnPolTwiceRow.mainSum := by
  unfold Func.isWrapper
  rw [if_neg (by decide +kernel)]
  exact ⟨rfl, rfl⟩

theorem over : Rows.fnPolTwiceRow.holds Try.pinned (OpenSpec.ofChange Rows.fnPolTwiceSpec) :=
  OpenClaim.holds_of_wide 22 Try.f22 rfl rfl rfl rfl rfl rfl rfl ⟨rfl, rfl, rfl, rfl, rfl⟩ rfl rfl rfl rfl rfl (by as_aux_lemma => kernel_rfl) Try.func22 closed inst wrap_
    (fun os started H enc _ => lifted os started H enc)

theorem proved : Rows.FnPolTwiceSaid := over
#print axioms proved
end Go.Proofs.Ytmlegiifceangaa.fnPolTwice
