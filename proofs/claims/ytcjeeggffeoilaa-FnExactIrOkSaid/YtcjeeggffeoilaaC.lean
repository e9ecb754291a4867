/- Contracts of what compares: numbers, lists of numbers. Conditions: lengths that a machine can hold. -/
import Derived.Test.YtcjeeggffeoilaaW
namespace Go.Proofs.Ytcjeeggffeoilaa
open Go Go.RowKit
set_option linter.unusedVariables false

def cmpI (a b : Int) : Int := if a < b then -1 else if b < a then 1 else 0
def lexO : List Int → List Int → Int
  | [], [] => 0
  | [], _ :: _ => -1
  | _ :: _, [] => 1
  | a :: p, b :: q => if a < b then -1 else if b < a then 1 else lexO p q
def aOrd (a b : List Int) : Int := if a.length < b.length then -1 else if b.length < a.length then 1 else lexO a b

def orI (a b : Int) : Int := if a = 0 then b else a







theorem lex_step {xs ys : List Int} {j : Nat} {x y : Int} (hx : xs[j]? = some x) (hy : ys[j]? = some y) :
    lexO (xs.drop j) (ys.drop j) = if x < y then -1 else if y < x then 1 else lexO (xs.drop (j + 1)) (ys.drop (j + 1)) := by
  have h1 : xs.drop j = x :: xs.drop (j + 1) := by
    obtain ⟨hj, he⟩ := List.getElem?_eq_some_iff.1 hx
    rw [List.drop_eq_getElem_cons hj, he]
  have h2 : ys.drop j = y :: ys.drop (j + 1) := by
    obtain ⟨hj, he⟩ := List.getElem?_eq_some_iff.1 hy
    rw [List.drop_eq_getElem_cons hj, he]
  rw [h1, h2, lexO]
theorem lex_out {xs ys : List Int} {j : Nat} (hx : xs.length ≤ j) : lexO (xs.drop j) (ys.drop j) = if j < ys.length then -1 else 0 := by
  rw [List.drop_eq_nil_of_le hx]
  by_cases h : j < ys.length
  · rw [List.drop_eq_getElem_cons h, if_pos h, lexO]
  · rw [List.drop_eq_nil_of_le (by omega), if_neg h, lexO]
theorem lex_over {xs ys : List Int} {j : Nat} (hx : j < xs.length) (hy : ys.length ≤ j) : lexO (xs.drop j) (ys.drop j) = 1 := by
  rw [List.drop_eq_getElem_cons hx, List.drop_eq_nil_of_le hy, lexO]





theorem aOrd_or (xs ys : List Int) : orI (cmpI xs.length ys.length) (lexO xs ys) = aOrd xs ys := by
  unfold aOrd cmpI orI
  by_cases h1 : xs.length < ys.length
  · simp [h1]
  · by_cases h2 : ys.length < xs.length
    · simp [h1, h2]
    · simp [h1, h2]



