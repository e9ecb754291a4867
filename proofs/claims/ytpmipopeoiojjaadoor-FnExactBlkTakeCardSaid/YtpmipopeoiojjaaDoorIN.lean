/- Instructions: how they read as arguments; contracts of the functions on one instruction and on one word. Conditions: the table of forms is laid. -/
import Derived.Test.YtpmipopeoiojjaaDoorDR
import Derived.Test.YtpmipopeoiojjaaDoorMC
import Derived.Test.YtpmipopeoiojjaaDoorI4
import Derived.Test.YtpmipopeoiojjaaDoorW
namespace Go.Proofs.YtpmipopeoiojjaaDoor
open Go Go.RowKit Go.WideShapes Go.Deep Go.ChangeShapes
set_option linter.unusedVariables false
set_option linter.unusedSimpArgs false

set_option maxRecDepth 100000 in
theorem read_ins {H : Type} {enc : TypeId × Value → H} {W : World} {base : Nat} {v : Value} {d : DataW H} {p : List MemPlace} (hv : Value.okWide Tryd.prog W .any base 40 v) (h : DataW.Trod enc Tryd.prog W 0 (fun _ => true) true 40 v d p) :
    ∃ o d a k : Int, v = .agg #[.int .i64 o, .int .i64 d, .int .i64 a, .int .i64 k] := by
  obtain ⟨cs, rfl, hsz⟩ := okWide_struct Tryd.underlying40 hv
  obtain ⟨fuel, hf⟩ := h
  obtain ⟨v0, v1, v2, v3, n, y0, y1, y2, y3, e, h0, h1, h2, h3⟩ := trod_four Tryd.underlying40 rfl rfl rfl rfl (by kernel_rfl) (by kernel_rfl) (by kernel_rfl) (by kernel_rfl) (by kernel_rfl) hf
  obtain ⟨x0, e0, _⟩ := DataW.trod_int Tryd.underlying3 h0
  obtain ⟨x1, e1, _⟩ := DataW.trod_int Tryd.underlying3 h1
  obtain ⟨x2, e2, _⟩ := DataW.trod_int Tryd.underlying3 h2
  obtain ⟨x3, e3, _⟩ := DataW.trod_int Tryd.underlying3 h3
  injection e0 with e0 _
  injection e1 with e1 _
  injection e2 with e2 _
  injection e3 with e3 _
  subst e0 e1 e2 e3
  obtain ⟨l⟩ := cs
  simp only [Value.cells] at e
  exact ⟨x0, x1, x2, x3, by rw [show l = _ from e]⟩

set_option maxRecDepth 100000 in
theorem read_inss {H : Type} {enc : TypeId × Value → H} {W : World} {base : Nat} {v : Value} {d : DataW H} {p : List MemPlace} (hv : Value.okWide Tryd.prog W .any base 22 v) (h : DataW.Trod enc Tryd.prog W 0 (fun _ => true) true 22 v d p) :
    ∃ (A : Option Addr) (k : Nat) (is : List In4), v = .slice A is.length k ∧ AIn4 W A is ∧ is.length ≤ 9223372036854775807 := by
  obtain ⟨a, len, cap, rfl⟩ := okWide_slice Tryd.underlying22 hv
  obtain ⟨fuel, hf⟩ := h
  obtain ⟨A, k, l, e, h1, _, h2⟩ := trod_list (f := In4.cells) (s := 4) (Q := fun _ => True) In4.len (by decide) Tryd.underlying22 (by kernel_rfl) (fun n cs' y hy => by
    obtain ⟨v0, v1, v2, v3, n', y0, y1, y2, y3, rfl, g0, g1, g2, g3⟩ := trod_four Tryd.underlying40 rfl rfl rfl rfl (by kernel_rfl) (by kernel_rfl) (by kernel_rfl) (by kernel_rfl) (by kernel_rfl) hy
    obtain ⟨x0, e0, _⟩ := DataW.trod_int Tryd.underlying3 g0
    obtain ⟨x1, e1, _⟩ := DataW.trod_int Tryd.underlying3 g1
    obtain ⟨x2, e2, _⟩ := DataW.trod_int Tryd.underlying3 g2
    obtain ⟨x3, e3, _⟩ := DataW.trod_int Tryd.underlying3 g3
    injection e0 with e0 _
    injection e1 with e1 _
    injection e2 with e2 _
    injection e3 with e3 _
    subst e0 e1 e2 e3
    exact ⟨⟨x0, x1, x2, x3⟩, rfl, trivial⟩) hf
  simp only [Value.cells] at e
  injection e with e _
  exact ⟨A, k, l, e, h1, h2⟩

/-! ### forms -/
def formD (o : Int) : Bool := !(o == 0) && !(o == 13)
def formA (o : Int) : Bool := !(o == 0) && (!(o == 1) && (!(o == 14) && !(o == 15)))
def formM (o : Int) : Int := if o = 0 then 3 else if o = 1 then 255 else if o = 8 then 15 else if 3 ≤ o ∧ o ≤ 7 then 3 else if 9 ≤ o ∧ o ≤ 12 then 255 else 0
theorem forms_at {n : Nat} (h : n < 16) : formsL[n]? = some (formD n, formA n, formM n) := by
  have : ∀ n : Fin 16, formsL[n.1]? = some (formD n.1, formA n.1, formM n.1) := by decide
  exact this ⟨n, h⟩
def insOk (o d a k : Int) : Bool := inB o 0 15 && (inB d 0 3 && (inB a 0 3 && ((formD o || d == 0) && ((formA o || a == 0) && inB k 0 (formM o)))))
def insForm (o d a k : Int) : Bool :=
  if o = 0 then d == 0 && (a == 0 && decide (k ≤ 3)) else if o = 1 then a == 0 else if o = 2 then k == 0 else if 3 ≤ o ∧ o ≤ 7 then decide (k < 4) else if o = 8 then decide (k < 16) else if o = 13 then d == 0 && k == 0 else if 14 ≤ o ∧ o ≤ 15 then a == 0 && k == 0 else true
theorem insOk_eq (o d a k : Int) : (inB o 0 15 && (inB d 0 3 && (inB a 0 3 && (inB k 0 255 && insForm o d a k)))) = insOk o d a k := by
  by_cases h : 0 ≤ o ∧ o ≤ 15
  · have h16 : o = 0 ∨ o = 1 ∨ o = 2 ∨ o = 3 ∨ o = 4 ∨ o = 5 ∨ o = 6 ∨ o = 7 ∨ o = 8 ∨ o = 9 ∨ o = 10 ∨ o = 11 ∨ o = 12 ∨ o = 13 ∨ o = 14 ∨ o = 15 := by omega
    clear h
    rcases h16 with rfl | rfl | rfl | rfl | rfl | rfl | rfl | rfl | rfl | rfl | rfl | rfl | rfl | rfl | rfl | rfl <;> (rw [Bool.eq_iff_iff]; simp [insOk, insForm, formD, formA, formM, inB]) <;> omega
  · have : inB o 0 15 = false := by simp [inB]; omega
    simp [insOk, this]

theorem specL2Form (o d a k : Int) (w : World) :
    Calls Tryd.prog 29 #[.agg #[.int .i64 o, .int .i64 d, .int .i64 a, .int .i64 k]] w fun e w' => e = .returned (.bool (insForm o d a k)) ∧ Ext w w' := by
  go_enter Tryd.func29, Tryd.ntmps29
  go_wp2
  all_goals
    go_ret
    exact ⟨ret_bool (by rw [Bool.eq_iff_iff]; simp_all [insForm] <;> first | omega | (split <;> omega)), (by repeat (first | with_reducible assumption | with_reducible exact Ext.refl _ | with_reducible apply Ext.drewN | with_reducible apply Ext.drew | with_reducible apply Ext.alloc | with_reducible refine Ext.set ?_ (by first | (simp; done) | (simp; omega)) _ | with_reducible refine Ext.next ?_ (by with_reducible assumption)))⟩

theorem specInsOk (o d a k : Int) (w : World) :
    Calls Tryd.prog 24 #[.agg #[.int .i64 o, .int .i64 d, .int .i64 a, .int .i64 k]] w fun e w' => e = .returned (.bool (insOk o d a k)) ∧ Ext w w' := by
  rw [← insOk_eq]
  go_enter Tryd.func24, Tryd.ntmps24
  go_wp2_with (first | (go_at_call 28; refine (specL1In _ _ _ _).mono ?_; rintro e w' ⟨rfl, rfl⟩) | (go_at_call 29; refine (specL2Form _ _ _ _ _).mono ?_; rintro e w1 ⟨rfl, hw1⟩))
  all_goals
    go_ret
    exact ⟨ret_bool (by simp_all), (by repeat (first | with_reducible assumption | with_reducible exact Ext.refl _ | with_reducible apply Ext.drewN | with_reducible apply Ext.drew | with_reducible apply Ext.alloc | with_reducible refine Ext.set ?_ (by first | (simp; done) | (simp; omega)) _ | with_reducible refine Ext.next ?_ (by with_reducible assumption)))⟩

theorem implInsOk (o d a k : Int) (w : World) (hF : LaidAt w) :
    Calls Tryd.prog 25 #[.agg #[.int .i64 o, .int .i64 d, .int .i64 a, .int .i64 k]] w fun e w' => e = .returned (.bool (insOk o d a k)) ∧ Ext w w' := by
  cases ho : inB o 0 15
  · have E := hid (show insOk o d a k = false by simp [insOk, ho])
    have HO := hid ho
    clear ho hF
    go_enter Tryd.func25, Tryd.ntmps25
    go_wp2_with (go_at_call 30; refine (implIn _ _ _ _).mono ?_; rintro e w' ⟨rfl, rfl⟩; rw [HO.out])
    go_ret
    exact ⟨ret_bool E.out.symm, (by repeat (first | with_reducible assumption | with_reducible exact Ext.refl _ | with_reducible apply Ext.drewN | with_reducible apply Ext.drew | with_reducible apply Ext.alloc | with_reducible refine Ext.set ?_ (by first | (simp; done) | (simp; omega)) _ | with_reducible refine Ext.next ?_ (by with_reducible assumption)))⟩
  · obtain ⟨n, rfl⟩ : ∃ n : Nat, o = n := ⟨o.toNat, by simp [inB] at ho; omega⟩
    have hn : n < 16 := by simp [inB] at ho; omega
    obtain ⟨b, f, kf, hg, hi⟩ := hF
    obtain ⟨A, m, c, g0, g1, g2, g3⟩ := hi n _ _ _ (forms_at hn)
    have hb := World.block_lt_of_cell? _ _ g0
    have hb0 := World.block_lt_of_cell? _ _ hg
    simp only at hb hb0
    have E : Hid (insOk n d a k = (inB d 0 3 && (inB a 0 3 && ((formD n || d == 0) && ((formA n || a == 0) && inB k 0 (formM n)))))) := hid (by rw [insOk, ho, Bool.true_and])
    have HO := hid ho
    clear ho hi
    rw [E.out]
    generalize formD n = fd at *
    generalize formA n = fa at *
    generalize formM n = fm at *
    go_enter Tryd.func25, Tryd.ntmps25
    go_wp2_with (first | (go_at_call 30; refine (implIn _ _ _ _).mono ?_; rintro e w' ⟨rfl, rfl⟩; try rw [HO.out]) | (go_at_call 31; refine (implIsReg _ _).mono ?_; rintro e w' ⟨rfl, rfl⟩))
    all_goals
      go_ret
      exact ⟨ret_bool (by simp_all), (by repeat (first | with_reducible assumption | with_reducible exact Ext.refl _ | with_reducible apply Ext.drewN | with_reducible apply Ext.drew | with_reducible apply Ext.alloc | with_reducible refine Ext.set ?_ (by first | (simp; done) | (simp; omega)) _ | with_reducible refine Ext.next ?_ (by with_reducible assumption)))⟩

def insPut (o d a k : Int) : Int := if insOk o d a k then o * 4096 + d * 1024 + a * 256 + k else 0
theorem insOk_bounds {o d a k : Int} (h : insOk o d a k = true) : (0 ≤ o ∧ o ≤ 15) ∧ (0 ≤ d ∧ d ≤ 3) ∧ (0 ≤ a ∧ a ≤ 3) ∧ (0 ≤ k ∧ k ≤ 255) := by
  rw [← insOk_eq] at h
  simp [inB] at h
  omega
theorem implInsPut (o d a k : Int) (w : World) (hF : LaidAt w) :
    Calls Tryd.prog 20 #[.agg #[.int .i64 o, .int .i64 d, .int .i64 a, .int .i64 k]] w fun e w' => e = .returned (.int .i64 (insPut o d a k)) ∧ Ext w w' := by
  cases ho : insOk o d a k
  · have E := hid (show insPut o d a k = 0 by simp [insPut, ho])
    have HO := hid ho
    clear ho
    go_enter Tryd.func20, Tryd.ntmps20
    go_wp2_with fail
    refine (implInsOk _ _ _ _ _ (hF.ext (by repeat (first | with_reducible assumption | with_reducible exact Ext.refl _ | with_reducible apply Ext.drewN | with_reducible apply Ext.drew | with_reducible apply Ext.alloc | with_reducible refine Ext.set ?_ (by first | (simp; done) | (simp; omega)) _ | with_reducible refine Ext.next ?_ (by with_reducible assumption))))).mono ?_
    rintro e w1 ⟨rfl, hw1⟩
    rw [HO.out]
    go_wp2
    go_ret
    exact ⟨ret_int E.out.symm, (by repeat (first | with_reducible assumption | with_reducible exact Ext.refl _ | with_reducible apply Ext.drewN | with_reducible apply Ext.drew | with_reducible apply Ext.alloc | with_reducible refine Ext.set ?_ (by first | (simp; done) | (simp; omega)) _ | with_reducible refine Ext.next ?_ (by with_reducible assumption)))⟩
  · have E := hid (show insPut o d a k = o * 4096 + d * 1024 + a * 256 + k by simp [insPut, ho])
    obtain ⟨⟨h0, h1⟩, ⟨h2, h3⟩, ⟨h4, h5⟩, h6, h7⟩ := insOk_bounds ho
    have HO := hid ho
    clear ho
    go_enter Tryd.func20, Tryd.ntmps20
    go_wp2_with fail
    refine (implInsOk _ _ _ _ _ (hF.ext (by repeat (first | with_reducible assumption | with_reducible exact Ext.refl _ | with_reducible apply Ext.drewN | with_reducible apply Ext.drew | with_reducible apply Ext.alloc | with_reducible refine Ext.set ?_ (by first | (simp; done) | (simp; omega)) _ | with_reducible refine Ext.next ?_ (by with_reducible assumption))))).mono ?_
    rintro e w1 ⟨rfl, hw1⟩
    rw [HO.out]
    obtain ⟨hc1, hf1⟩ := bcell1 hw1
    go_wp2
    go_ret
    exact ⟨ret_int E.out.symm, (by repeat (first | with_reducible assumption | with_reducible exact Ext.refl _ | with_reducible apply Ext.drewN | with_reducible apply Ext.drew | with_reducible apply Ext.alloc | with_reducible refine Ext.set ?_ (by first | (simp; done) | (simp; omega)) _ | with_reducible refine Ext.next ?_ (by with_reducible assumption)))⟩
theorem specInsPut (o d a k : Int) (w : World) :
    Calls Tryd.prog 18 #[.agg #[.int .i64 o, .int .i64 d, .int .i64 a, .int .i64 k]] w fun e w' => e = .returned (.int .i64 (insPut o d a k)) ∧ Ext w w' := by
  cases ho : insOk o d a k
  · have E := hid (show insPut o d a k = 0 by simp [insPut, ho])
    have HO := hid ho
    clear ho
    go_enter Tryd.func18, Tryd.ntmps18
    go_wp2_with fail
    refine (specInsOk _ _ _ _ _).mono ?_
    rintro e w1 ⟨rfl, hw1⟩
    rw [HO.out]
    go_wp2
    go_ret
    exact ⟨ret_int E.out.symm, (by repeat (first | with_reducible assumption | with_reducible exact Ext.refl _ | with_reducible apply Ext.drewN | with_reducible apply Ext.drew | with_reducible apply Ext.alloc | with_reducible refine Ext.set ?_ (by first | (simp; done) | (simp; omega)) _ | with_reducible refine Ext.next ?_ (by with_reducible assumption)))⟩
  · have E := hid (show insPut o d a k = o * 4096 + d * 1024 + a * 256 + k by simp [insPut, ho])
    obtain ⟨⟨h0, h1⟩, ⟨h2, h3⟩, ⟨h4, h5⟩, h6, h7⟩ := insOk_bounds ho
    have HO := hid ho
    clear ho
    go_enter Tryd.func18, Tryd.ntmps18
    go_wp2_with fail
    refine (specInsOk _ _ _ _ _).mono ?_
    rintro e w1 ⟨rfl, hw1⟩
    rw [HO.out]
    obtain ⟨hc1, hf1⟩ := bcell1 hw1
    go_wp2
    go_ret
    exact ⟨ret_int E.out.symm, (by repeat (first | with_reducible assumption | with_reducible exact Ext.refl _ | with_reducible apply Ext.drewN | with_reducible apply Ext.drew | with_reducible apply Ext.alloc | with_reducible refine Ext.set ?_ (by first | (simp; done) | (simp; omega)) _ | with_reducible refine Ext.next ?_ (by with_reducible assumption)))⟩
end Go.Proofs.YtpmipopeoiojjaaDoor
