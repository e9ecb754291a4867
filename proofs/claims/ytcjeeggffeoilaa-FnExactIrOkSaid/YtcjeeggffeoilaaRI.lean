/- A region that draws its order, by an invariant over what is done; no program in sight. Conditions: none. -/
import Derived.Test.YtcjeeggffeoilaaL
import Derived.Orders
namespace Go.Proofs.Ytcjeeggffeoilaa
open Go Go.RowKit
set_option linter.unusedVariables false
set_option linter.unusedSimpArgs false

theorem count_set : ∀ (l : List Bool) (i : Nat), l[i]? = some false → (l.set i true).countP (fun b => !b) + 1 = l.countP (fun b => !b)
  | [], i, h => by simp at h
  | b :: l, 0, h => by
    simp at h
    subst h
    simp
  | b :: l, i + 1, h => by
    have := count_set l i (by simpa using h)
    rw [List.set_cons_succ, List.countP_cons, List.countP_cons]
    omega
def left (L : Array Bool) : Nat := L.toList.countP fun b => !b
theorem left_set {L : Array Bool} {i : Nat} (hi : i < L.size) (h : L.getD i true = false) : left (L.setIfInBounds i true) + 1 = left L := by
  unfold left
  rw [Array.toList_setIfInBounds]
  refine count_set _ _ ?_
  rw [Array.getD_eq_getD_getElem?, Array.getElem?_eq_getElem hi] at h
  simp at h
  rw [Array.getElem?_toList, Array.getElem?_eq_getElem hi, h]
theorem getD_set_same {L : Array Bool} {i : Nat} (hi : i < L.size) (d : Bool) : (L.setIfInBounds i true).getD i d = true := by simp [Array.getD_eq_getD_getElem?, hi]
theorem getD_set_ne {L : Array Bool} {i j : Nat} (h : i ≠ j) (d : Bool) : (L.setIfInBounds i true).getD j d = L.getD j d := by simp [Array.getD_eq_getD_getElem?, Array.getElem?_setIfInBounds_ne h]

section
variable {P : Program} {ops : Array Oper} {Q : Exit → Act → World → Prop}
theorem all_done (hback : ∀ (i : Nat) (o : Oper), ops[i]? = some o → ∀ e ∈ o.after, e.on < i) {L : Array Bool} (hs : L.size = ops.size) (hr : Region.ready .any ops L = []) : ∀ i, i < ops.size → L.getD i false = true := by
  intro i
  induction i using Nat.strongRecOn with
  | _ i ih =>
    intro hi
    have hget : ∀ d, L.getD i d = L[i]'(by omega) := fun d => by simp [Array.getD_eq_getD_getElem?, Array.getElem?_eq_getElem (show i < L.size by omega)]
    cases h : L[i]'(by omega)
    · exfalso
      have ho : ops[i]? = some ops[i] := Array.getElem?_eq_getElem hi
      have : i ∈ Region.ready .any ops L := by
        unfold Region.ready
        rw [List.mem_filter]
        refine ⟨List.mem_range.2 hi, ?_⟩
        rw [hget, h, ho]
        simp only [Bool.not_false, Bool.true_and, Option.map_some, Option.getD_some]
        rw [Array.all_eq_true']
        intro e he
        have := ih e.on (hback i _ ho e he) (by have := hback i _ ho e he; omega)
        rw [this, Bool.or_true]
      rw [hr] at this
      cases this
    · rw [hget, h]
/-- AN INVARIANT: it holds ahead of the first operation; each operation whose forerunners are done keeps it; behind the last the rest goes on. -/
theorem wpAny_inv (I : Array Bool → Act → World → Prop) (hback : ∀ (i : Nat) (o : Oper), ops[i]? = some o → ∀ e ∈ o.after, e.on < i) (hguard : ∀ (i : Nat) (o : Oper), ops[i]? = some o → o.guard = none)
    (hstep : ∀ L a w, L.size = ops.size → I L a w → ∀ (i : Nat) (o : Oper), ops[i]? = some o → L.getD i true = false → (∀ e ∈ o.after, Region.binds .any e = true → L.getD e.on false = true) → Oper.wp P o a w (fun a' w' => I (L.setIfInBounds i true) a' w') Q)
    (hend : ∀ L a w, (∀ i, i < ops.size → L.getD i false = true) → I L a w → Q .normal a w) :
    ∀ (fuel : Nat) (L : Array Bool) (a : Act) (w : World), L.size = ops.size → left L ≤ fuel → I L a w → wpAny P .any ops Q fuel L a w := by
  intro fuel
  induction fuel with
  | zero =>
    intro L a w hs hl hI
    have h0 : ∀ i, i < ops.size → L.getD i true = true := by
      intro i hi
      have hi' : i < L.size := by omega
      cases hb : L.getD i true
      · have := left_set hi' hb
        omega
      · rfl
    have hr : Region.ready .any ops L = [] := by
      unfold Region.ready
      rw [List.filter_eq_nil_iff]
      intro i hi
      rw [h0 i (List.mem_range.1 hi)]
      simp
    exact ⟨hr, hend L a w (all_done hback hs hr) hI⟩
  | succ fuel ih =>
    intro L a w hs hl hI
    refine ⟨fun hr => hend L a w (all_done hback hs hr) hI, fun i hi => ?_⟩
    unfold Region.ready at hi
    rw [List.mem_filter] at hi
    obtain ⟨hi1, hi2⟩ := hi
    have hi1 := List.mem_range.1 hi1
    have ho : ops[i]? = some ops[i] := Array.getElem?_eq_getElem hi1
    rw [Bool.and_eq_true, Bool.not_eq_true'] at hi2
    obtain ⟨hf, hd⟩ := hi2
    rw [ho, Option.map_some, Option.getD_some, Array.all_eq_true'] at hd
    unfold wpOp
    rw [ho]
    simp only
    have hw : Region.wanted ops[i] (yielded ops a.tmps) = true := by
      unfold Region.wanted
      rw [hguard i _ ho]
    rw [if_pos hw]
    refine .inl (Oper.wp_mono (fun a' w' h => ?_) (hstep L a w hs hI i _ ho hf fun e he hb => ?_))
    · exact ih _ a' w' (by simpa using hs) (by have := left_set (by omega) hf; omega) h
    · have := hd e he
      rw [hb] at this
      simpa using this
theorem region_inv {id : Nat} {a : Act} {w : World} (hm : P.follows .mixedOrders = true) (I : Array Bool → Act → World → Prop) (hback : ∀ (i : Nat) (o : Oper), ops[i]? = some o → ∀ e ∈ o.after, e.on < i) (hguard : ∀ (i : Nat) (o : Oper), ops[i]? = some o → o.guard = none)
    (h0 : I (Array.replicate ops.size false) a w.drew)
    (hstep : ∀ L a w, L.size = ops.size → I L a w → ∀ (i : Nat) (o : Oper), ops[i]? = some o → L.getD i true = false → (∀ e ∈ o.after, Region.binds .any e = true → L.getD e.on false = true) → Oper.wp P o a w (fun a' w' => I (L.setIfInBounds i true) a' w') Q)
    (hend : ∀ L a w, (∀ i, i < ops.size → L.getD i false = true) → I L a w → Q .normal a w) : (Code.region id ops true).wp P Q a w :=
  wp_region_any hm (wpAny_inv I hback hguard hstep hend _ _ _ _ (by simp) (by
    unfold left
    refine Nat.le_trans List.countP_le_length ?_
    simp) h0)
/-- Forerunners stand ahead; no operation is guarded. -/
def backB (ops : Array Oper) : Bool := (List.range ops.size).all fun i => match ops[i]? with
  | none => true
  | some o => o.after.all (fun e => decide (e.on < i)) && o.guard.isNone
theorem backB_spec (h : backB ops = true) {i : Nat} {o : Oper} (ho : ops[i]? = some o) : (∀ e ∈ o.after, e.on < i) ∧ o.guard = none := by
  obtain ⟨hi, _⟩ := Array.getElem?_eq_some_iff.1 ho
  have := List.all_eq_true.1 h i (List.mem_range.2 hi)
  rw [ho] at this
  simp only [Bool.and_eq_true] at this
  refine ⟨fun e he => ?_, Option.isNone_iff_eq_none.1 this.2⟩
  exact of_decide_eq_true (Array.all_eq_true'.1 this.1 e he)
theorem region_inv' {id : Nat} {a : Act} {w : World} (hm : P.follows .mixedOrders = true) (hb : backB ops = true) (I : Array Bool → Act → World → Prop)
    (h0 : I (Array.replicate ops.size false) a w.drew)
    (hstep : ∀ L a w, L.size = ops.size → I L a w → ∀ (i : Nat) (o : Oper), ops[i]? = some o → L.getD i true = false → (∀ e ∈ o.after, Region.binds .any e = true → L.getD e.on false = true) → Oper.wp P o a w (fun a' w' => I (L.setIfInBounds i true) a' w') Q)
    (hend : ∀ L a w, (∀ i, i < ops.size → L.getD i false = true) → I L a w → Q .normal a w) : (Code.region id ops true).wp P Q a w :=
  region_inv hm I (fun i o ho => (backB_spec hb ho).1) (fun i o ho => (backB_spec hb ho).2) h0 hstep hend
end
end Go.Proofs.Ytcjeeggffeoilaa
