/- Contracts of sums with their values given: PolAdd, PolMul, PolScale, PolEval and what asks after them. Conditions: lengths that a machine can hold. -/
import Derived.Test.YtcgelcaepkakaaaPU
import Derived.Test.YtcgelcaepkakaaaPH
import Derived.Test.YtcgelcaepkakaaaV
import Derived.Test.YtcgelcaepkakaaaG
namespace Go.Proofs.Ytcgelcaepkakaaa
open Go Go.RowKit
set_option linter.unusedVariables false
set_option linter.unusedSimpArgs false

theorem bcell_ {W w1 : World} (hb : Ext W w1) : (∀ b o, b < W.heap.size → w1.cell? ⟨b, o, none⟩ = W.cell? ⟨b, o, none⟩) ∧ (∀ b o, b < W.heap.size → w1.frozen? ⟨b, o, none⟩ = W.frozen? ⟨b, o, none⟩) :=
  ⟨fun b o h => hb.cell (p := ⟨b, o, none⟩) h, fun b o h => hb.frozen (p := ⟨b, o, none⟩) h⟩
theorem field_monos (A : Option Addr) (n k : Nat) (w : World) : (Instr.field 25 (.agg #[.slice A n k]) 0).run Try.prog w = .ok (.slice A n k) w := by kernel_rfl
/-- What comes back is a sum of known worth, ok in size. -/
def RetK (TM TI : TypeId) (w : World) (d : List Mono) (v : Option Addr → Nat → Nat → Value) (e : Ending) (w' : World) : Prop :=
  ∃ A k ms, e = .returned (v A (List.length ms) k) ∧ ms.map Mn.dat = d ∧ SzM ms ∧ RN TM TI w' A k ms ∧ Ext w w'
theorem szM_ok {ms : List Mn} {d : List Mono} (h : ms.map Mn.dat = d) (hd : polOk d = true) : SzM ms := (SzP.of_ok (ms := ms) (by rw [h]; exact hd)).szM (by decide)
theorem implPolAdd_v (A A' : Option Addr) (k k' : Nat) (ms ms' : List Mn) (w : World) (h : RN 73 3 w A k ms) (h' : RN 73 3 w A' k' ms') (hs : SzM ms) (hs' : SzM ms') {d : List Mono} {b : Bool} (hd : polAdd (ms.map Mn.dat) (ms'.map Mn.dat) = (d, b)) :
    Calls Try.prog 28 #[.agg #[.slice A ms.length k], .agg #[.slice A' ms'.length k']] w (RetK 73 3 w d fun A n k => .tuple #[.agg #[.slice A n k], .bool b]) := by
  have hk : polOk d = true := by have := polOk_polAdd (ms.map Mn.dat) (ms'.map Mn.dat); rw [hd] at this; exact this
  refine (implPolAdd A A' k k' ms ms' w h h' hs hs').mono ?_
  rintro e w' ⟨A, k, l, rfl, hl, ho, hw⟩
  rw [hd] at hl ⊢
  exact ⟨A, k, l, rfl, hl, szM_ok hl hk, ho.rn, hw⟩
theorem specPolAdd_v (A A' : Option Addr) (k k' : Nat) (ms ms' : List Mn) (w : World) (h : RN 73 3 w A k ms) (h' : RN 73 3 w A' k' ms') (hs : SzM ms) (hs' : SzM ms') {d : List Mono} {b : Bool} (hd : polAdd (ms.map Mn.dat) (ms'.map Mn.dat) = (d, b)) :
    Calls Try.prog 29 #[.agg #[.slice A ms.length k], .agg #[.slice A' ms'.length k']] w (RetK 73 3 w d fun A n k => .tuple #[.agg #[.slice A n k], .bool b]) := by
  have hk : polOk d = true := by have := polOk_polAdd (ms.map Mn.dat) (ms'.map Mn.dat); rw [hd] at this; exact this
  refine (specPolAdd A A' k k' ms ms' w h h' hs hs').mono ?_
  rintro e w' ⟨A, k, l, rfl, hl, ho, hw⟩
  rw [hd] at hl ⊢
  exact ⟨A, k, l, rfl, hl, szM_ok hl hk, ho.rn, hw⟩
theorem implPolMul_v (A A' : Option Addr) (k k' : Nat) (ms ms' : List Mn) (w : World) (h : RN 73 3 w A k ms) (h' : RN 73 3 w A' k' ms') (hs : SzM ms) (hs' : SzM ms') {d : List Mono} {b : Bool} (hd : polMul (ms.map Mn.dat) (ms'.map Mn.dat) = (d, b)) :
    Calls Try.prog 13 #[.agg #[.slice A ms.length k], .agg #[.slice A' ms'.length k']] w (RetK 73 3 w d fun A n k => .tuple #[.agg #[.slice A n k], .bool b]) := by
  have hk : polOk d = true := by have := polOk_polMul (ms.map Mn.dat) (ms'.map Mn.dat); rw [hd] at this; exact this
  refine (implPolMul A A' k k' ms ms' w h h' hs hs').mono ?_
  rintro e w' ⟨A, k, l, rfl, hl, ho, hw⟩
  rw [hd] at hl ⊢
  exact ⟨A, k, l, rfl, hl, szM_ok hl hk, ho.rn, hw⟩
theorem specPolMul_v (A A' : Option Addr) (k k' : Nat) (ms ms' : List Mn) (w : World) (h : RN 73 3 w A k ms) (h' : RN 73 3 w A' k' ms') (hs : SzM ms) (hs' : SzM ms') {d : List Mono} {b : Bool} (hd : polMul (ms.map Mn.dat) (ms'.map Mn.dat) = (d, b)) :
    Calls Try.prog 14 #[.agg #[.slice A ms.length k], .agg #[.slice A' ms'.length k']] w (RetK 73 3 w d fun A n k => .tuple #[.agg #[.slice A n k], .bool b]) := by
  have hk : polOk d = true := by have := polOk_polMul (ms.map Mn.dat) (ms'.map Mn.dat); rw [hd] at this; exact this
  refine (specPolMul A A' k k' ms ms' w h h' hs hs').mono ?_
  rintro e w' ⟨A, k, l, rfl, hl, ho, hw⟩
  rw [hd] at hl ⊢
  exact ⟨A, k, l, rfl, hl, szM_ok hl hk, ho.rn, hw⟩
theorem implPolScale_v (A : Option Addr) (k : Nat) (ms : List Mn) (n : Int) (w : World) (h : RN 73 3 w A k ms) (hs : SzM ms) {d : List Mono} (hd : polScale (ms.map Mn.dat) n = d) :
    Calls Try.prog 23 #[.agg #[.slice A ms.length k], .int .i64 n] w (RetK 73 3 w d fun A n k => .agg #[.slice A n k]) := by
  have hk : polOk d = true := by rw [← hd]; exact polOk_polScale _ _
  refine (implPolScale A k ms n w h hs).mono ?_
  rintro e w' ⟨A, k, l, rfl, hl, ho, hw⟩
  rw [hd] at hl
  exact ⟨A, k, l, rfl, hl, szM_ok hl hk, ho.rn, hw⟩
theorem specPolScale_v (A : Option Addr) (k : Nat) (ms : List Mn) (n : Int) (w : World) (h : RN 73 3 w A k ms) (hs : SzM ms) {d : List Mono} (hd : polScale (ms.map Mn.dat) n = d) :
    Calls Try.prog 24 #[.agg #[.slice A ms.length k], .int .i64 n] w (RetK 73 3 w d fun A n k => .agg #[.slice A n k]) := by
  have hk : polOk d = true := by rw [← hd]; exact polOk_polScale _ _
  refine (specPolScale A k ms n w h hs).mono ?_
  rintro e w' ⟨A, k, l, rfl, hl, ho, hw⟩
  rw [hd] at hl
  exact ⟨A, k, l, rfl, hl, szM_ok hl hk, ho.rn, hw⟩
theorem implPolConst_v (n : Int) (w : World) {d : List Mono} (hd : polConst n = d) :
    Calls Try.prog 26 #[.int .i64 n] w (RetK 73 3 w d fun A n k => .agg #[.slice A n k]) := by
  have hk : polOk d = true := by rw [← hd]; exact polOk_polConst _
  refine (implPolConst n w).mono ?_
  rintro e w' ⟨A, k, l, rfl, hl, ho, hw⟩
  rw [hd] at hl
  exact ⟨A, k, l, rfl, hl, szM_ok hl hk, ho.rn, hw⟩
theorem specPolConst_v (n : Int) (w : World) {d : List Mono} (hd : polConst n = d) :
    Calls Try.prog 37 #[.int .i64 n] w (RetK 73 3 w d fun A n k => .agg #[.slice A n k]) := by
  have hk : polOk d = true := by rw [← hd]; exact polOk_polConst _
  refine (specPolConst n w).mono ?_
  rintro e w' ⟨A, k, l, rfl, hl, ho, hw⟩
  rw [hd] at hl
  exact ⟨A, k, l, rfl, hl, szM_ok hl hk, ho.rn, hw⟩
theorem implPolAtom_v (n : Int) (w : World) {d : List Mono} (hd : polAtom n = d) (hk : polOk d = true) :
    Calls Try.prog 38 #[.int .i64 n] w (RetK 73 3 w d fun A n k => .agg #[.slice A n k]) := by
  refine (implPolAtom n w).mono ?_
  rintro e w' ⟨A, k, l, rfl, hl, ho, hw⟩
  rw [hd] at hl
  exact ⟨A, k, l, rfl, hl, szM_ok hl hk, ho.rn, hw⟩
theorem implPolOk_v (A : Option Addr) (k : Nat) (ms : List Mn) (w : World) (h : RM 73 3 w A ms) (hs : SzM ms) {v : Bool} (hv : polOk (ms.map Mn.dat) = v) :
    Calls Try.prog 19 #[.agg #[.slice A ms.length k]] w fun e w' => e = .returned (.bool v) ∧ Ext w w' := by
  subst hv
  exact implPolOk A k ms w h hs
theorem implPolNum_v (A : Option Addr) (k : Nat) (ms : List Mn) (w : World) (h : RM 73 3 w A ms) (hs : SzM ms) {n : Int} {b : Bool} (hv : polNum (ms.map Mn.dat) = (n, b)) :
    Calls Try.prog 35 #[.agg #[.slice A ms.length k]] w fun e w' => e = .returned (.tuple #[.int .i64 n, .bool b]) ∧ Ext w w' := by
  have := implPolNum A k ms w h hs
  unfold retNum at this
  rw [hv] at this
  exact this
theorem specPolOk_v (A : Option Addr) (k : Nat) (ms : List Mn) (w : World) (h : RM 73 3 w A ms) (hs : SzM ms) {v : Bool} (hv : polOk (ms.map Mn.dat) = v) :
    Calls Try.prog 16 #[.agg #[.slice A ms.length k]] w fun e w' => e = .returned (.bool v) ∧ Ext w w' := by
  subst hv
  exact specPolOk A k ms w h hs
theorem specPolNum_v (A : Option Addr) (k : Nat) (ms : List Mn) (w : World) (h : RM 73 3 w A ms) (hs : SzM ms) {n : Int} {b : Bool} (hv : polNum (ms.map Mn.dat) = (n, b)) :
    Calls Try.prog 36 #[.agg #[.slice A ms.length k]] w fun e w' => e = .returned (.tuple #[.int .i64 n, .bool b]) ∧ Ext w w' := by
  have := specPolNum A k ms w h hs
  unfold retNum at this
  rw [hv] at this
  exact this
theorem implPolEval_v (A A' : Option Addr) (k k' n : Nat) (ms : List Mn) (vs : List Int) (w : World) (h : RM 73 3 w A ms) (hs : SzM ms) (h' : RI 3 w A' vs) (hl : vs.length = n) (hn' : vs.length < 4611686018427387904) {v : Int} (hv : polEval (ms.map Mn.dat) vs = v) :
    Calls Try.prog 20 #[.agg #[.slice A ms.length k], .slice A' n k'] w fun e w' => e = .returned (.int .i64 v) ∧ Ext w w' := by
  subst hl hv
  exact implPolEval A A' k k' ms vs w h hs h' hn'
theorem specWrdDo_v (op a b : Int) (w : World) {v : Int} (hv : wrdDo op a b = v) :
    Calls Try.prog 21 #[.int .i64 op, .int .i64 a, .int .i64 b] w fun e w' => e = .returned (.int .i64 v) ∧ Ext w w' := by
  subst hv
  refine (specWrdDo op a b w).mono ?_
  rintro e w' ⟨rfl, rfl⟩
  exact ⟨rfl, Ext.refl _⟩
theorem laPoly_v (A A' : Option Addr) (k k' : Nat) (ms ms' : List Mn) (w : World) (h : RM 73 3 w A ms) (h' : RM 73 3 w A' ms') (hs : SzM ms) (hs' : SzM ms') (hd : ms.map Mn.dat = ms'.map Mn.dat) :
    Calls Try.prog 15 #[.agg #[.slice A ms.length k], .agg #[.slice A' ms'.length k']] w fun e w' => e = .returned (.bool true) ∧ Ext w w' := by
  have := laPoly_ A A' k k' ms ms' w h h' hs hs'
  rw [decide_eq_true hd] at this
  exact this
theorem wordsB_wraps (xs : List Int) : wordsB (xs.map wrap) = true := by
  unfold wordsB
  rw [List.all_eq_true]
  intro x hx
  obtain ⟨y, _, rfl⟩ := List.mem_map.1 hx
  exact wrdOk_wrap _
end Go.Proofs.Ytcgelcaepkakaaa
