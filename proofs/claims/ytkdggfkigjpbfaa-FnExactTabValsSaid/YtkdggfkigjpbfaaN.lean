/- Contracts of what tells the word that a sum is. Conditions: lengths that a machine can hold. -/
import Derived.Test.YtkdggfkigjpbfaaO
namespace Go.Proofs.Ytkdggfkigjpbfaa
open Go Go.RowKit
set_option linter.unusedVariables false
set_option linter.unusedSimpArgs false

/-- The word that a sum is, and whether it is one. -/
def polNum (p : List (Int × List Int)) : Int × Bool :=
  match polOk p, p with
  | true, [] => (0, true)
  | true, [(c, [])] => (c, true)
  | _, _ => (0, false)
def retNum (r : Int × Bool) : Value := .tuple #[.int .i64 r.1, .bool r.2]
theorem ret_num {c : Int} {b : Bool} {r : Int × Bool} (h : r = (c, b)) : Ending.returned (.tuple #[.int .i64 c, .bool b]) = .returned (retNum r) := by rw [h]; rfl

theorem polNum_not {p : List (Int × List Int)} (h : polOk p = false) : polNum p = (0, false) := by unfold polNum; rw [h]
theorem polNum_nil {p : List (Int × List Int)} (h : p.length = 0) : polNum p = (0, true) := by
  have : p = [] := List.length_eq_zero_iff.1 h
  subst this
  rfl
theorem polNum_one {ms : List Mn} {m : Mn} (h : polOk (ms.map Mn.dat) = true) (hl : ms.length = 1) (hm : ms[0]? = some m) (hx : m.xs.length = 0) : polNum (ms.map Mn.dat) = (m.c, true) := by
  match ms, hl with
  | [a], _ =>
    injection hm with hm
    subst hm
    have e : a.xs = [] := List.length_eq_zero_iff.1 hx
    have h' : polOk [(a.c, ([] : List Int))] = true := by
      have : polOk [a.dat] = true := h
      rwa [Mn.dat, e] at this
    show polNum [a.dat] = _
    rw [Mn.dat, e]
    unfold polNum
    rw [h']
theorem polNum_atoms {ms : List Mn} {m : Mn} (hl : ms.length = 1) (hm : ms[0]? = some m) (hx : m.xs.length ≠ 0) : polNum (ms.map Mn.dat) = (0, false) := by
  match ms, hl with
  | [a], _ =>
    injection hm with hm
    subst hm
    show polNum [a.dat] = _
    unfold polNum
    match e : a.xs with
    | [] => rw [e] at hx; simp at hx
    | x :: l =>
      rw [Mn.dat, e]
      cases polOk [(a.c, x :: l)] <;> rfl
theorem polNum_many {p : List (Int × List Int)} (h : 1 < p.length) : polNum p = (0, false) := by
  match p, h with
  | a :: b :: l, _ => obtain ⟨c, x⟩ := a; cases x <;> (unfold polNum; cases polOk (_ :: b :: l) <;> rfl)



