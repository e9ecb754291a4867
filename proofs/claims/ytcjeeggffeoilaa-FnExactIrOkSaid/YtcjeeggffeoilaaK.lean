/- Closed facts on the whole program that every row of the seat asks; a fact a declaration. Conditions: none. -/
import Derived.Test.YtcjeeggffeoilaaRows
import Derived.JoinedOf
namespace Go.Proofs.Ytcjeeggffeoilaa
open Go
set_option linter.unusedVariables false

def bareClaim : OpenClaim := { program := "x", sum := "x", func := "x", spec := "x" }

/-! ### of any program whose head's word is 'cut' -/
theorem strip_cut (rest : List (List Char)) : stripLifts liftWords ("cut".toList :: rest) = ([], "cut".toList :: rest) := by kernel_rfl
section
variable {P : Program} {rest : List (List Char)}
theorem make_cut (h : behindMainWord (wordsSigns P.initOrder.toList) = "cut".toList :: rest) : P.make = some .cut := by
  unfold Program.make
  rw [h]
  have e1 : ("cut".toList == "gc".toList || "cut".toList == "spec".toList) = false := by decide +kernel
  have e2 : ("cut".toList == "cut".toList || "cut".toList == "finals".toList && rest.head? == some "cut".toList) = true := by
    have : ("cut".toList == "cut".toList) = true := by decide +kernel
    rw [this, Bool.true_or]
  simp only [e1, e2, Bool.false_eq_true, if_false, if_true]
theorem headLifts_cut (h : behindMainWord (wordsSigns P.initOrder.toList) = "cut".toList :: rest) : P.headLifts = [] := by
  unfold Program.headLifts
  rw [h, strip_cut]
  dsimp only
  split <;> rfl
theorem liftsFinal_cut (h : behindMainWord (wordsSigns P.initOrder.toList) = "cut".toList :: rest) : P.liftsFinal = false := by
  unfold Program.liftsFinal
  rw [headLifts_cut h, h]
  have e1 : (("cut".toList :: rest).head? == some "carried".toList) = false := by
    show (some "cut".toList == some "carried".toList) = false
    decide +kernel
  simp only [e1, Bool.false_and, Bool.false_or]
  rfl
theorem mayEnter_any {c : List Char} (h : behindMainWord (wordsSigns P.initOrder.toList) = c :: rest) (hs : stripLifts liftWords (c :: rest) = ([], c :: rest)) (hc : (some c == some "cut".toList) = true)
    (hl : P.laysLater = false) (hb : P.bearsReflect = false) (hd : P.doorFits [] = true) : P.mayEnter = true := by
  unfold Program.mayEnter
  rw [h]
  show (_ || _ || _) = true
  rw [hs, hl, hb, hd]
  have e : ((c :: rest).head? == some "cut".toList) = true := hc
  have e2 : (([] : List String).contains "reflectrows" || !([] : List String).contains "leanrows") = true := rfl
  simp only [e, e2, Bool.not_false, Bool.or_true, Bool.and_true]
theorem mayEnter_cut (h : behindMainWord (wordsSigns P.initOrder.toList) = "cut".toList :: rest) (hl : P.laysLater = false) (hb : P.bearsReflect = false) (hd : P.doorFits [] = true) : P.mayEnter = true :=
  mayEnter_any h (strip_cut rest) (by decide +kernel) hl hb hd
end

set_option maxRecDepth 100000 in
theorem head_cut : ∃ rest, behindMainWord (wordsSigns Try.prog.initOrder.toList) = "cut".toList :: rest := by
  have key : ∃ L, Try.prog.initOrder.toList = L ∧ (behindMainWord (wordsSigns L)).head? = some "cut".toList := by
    refine ⟨_, (congrArg String.toList (show Try.prog.initOrder = String.ofList _ from rfl)).trans String.toList_ofList, ?_⟩
    decide +kernel
  obtain ⟨L, hL, hw⟩ := key
  rw [hL]
  cases hb : behindMainWord (wordsSigns L) with
  | nil => rw [hb] at hw; cases hw
  | cons c rest =>
    rw [hb] at hw
    injection hw with hw
    exact ⟨rest, by rw [hw]⟩


theorem pf1 : (fun (P : Program) (c : OpenClaim) => (laidOutB P : Bool)) Try.prog bareClaim = true := by kernel_rfl

theorem pf2 : (fun (P : Program) (c : OpenClaim) => (mapsRowed P : Bool)) Try.prog bareClaim = true := by kernel_rfl

theorem pf6 : (fun (P : Program) (c : OpenClaim) => ((P.stops == []) : Bool)) Try.prog bareClaim = true := by kernel_rfl

theorem pf8 : (fun (P : Program) (c : OpenClaim) => ((P.stopKnobs == []) : Bool)) Try.prog bareClaim = true := by kernel_rfl

theorem pf22 : (fun (P : Program) (c : OpenClaim) => ((c.plainKeys == P.plainKeys) : Bool)) Try.prog bareClaim = true := by kernel_rfl

theorem pf24 : (fun (P : Program) (c : OpenClaim) => (P.stopsHeard : Bool)) Try.prog bareClaim = true := by kernel_rfl

theorem pf25 : (fun (P : Program) (c : OpenClaim) => (P.mayEnter : Bool)) Try.prog bareClaim = true := by
  obtain ⟨rest, h⟩ := head_cut
  show Try.prog.mayEnter = true
  exact mayEnter_cut h (by as_aux_lemma => kernel_rfl) (by as_aux_lemma => kernel_rfl) (by as_aux_lemma => kernel_rfl)

theorem pf26 : (fun (P : Program) (c : OpenClaim) => ((c.lifted == P.liftsFinal) : Bool)) Try.prog bareClaim = true := by
  obtain ⟨rest, h⟩ := head_cut
  show (bareClaim.lifted == Try.prog.liftsFinal) = true
  rw [liftsFinal_cut h]
  rfl

theorem pf27 : (fun (P : Program) (c : OpenClaim) => ((P.make == some c.make) : Bool)) Try.prog bareClaim = true := by
  obtain ⟨rest, h⟩ := head_cut
  show (Try.prog.make == some bareClaim.make) = true
  rw [make_cut h]
  rfl

theorem band {a b : Bool} (ha : a = true) (hb : b = true) : (a && b) = true := by rw [ha, hb]; rfl
end Go.Proofs.Ytcjeeggffeoilaa
