/- Contracts of what measures, copies and compares lists of ints and sums (the laws' own helpers). Conditions: lengths that a machine can hold. -/
import Derived.Test.YtcjeeggffeoilaaC
import Derived.Test.YtcjeeggffeoilaaM
namespace Go.Proofs.Ytcjeeggffeoilaa
open Go Go.RowKit
set_option linter.unusedVariables false
set_option linter.unusedSimpArgs false

/-- What is left of a measure; -1, if nothing is. -/
def szF (left : Int) (n : Nat) : Int := if left < n then -1 else left - n
theorem szF_lt {left : Int} {n : Nat} (h : left < n) : szF left n = -1 := by rw [szF, if_pos h]
theorem szF_ge {left : Int} {n : Nat} (h : (n : Int) ≤ left) : szF left n = left - n := by rw [szF, if_neg (by omega)]





theorem tot_take {ms : List Mn} {j : Nat} {m : Mn} (hm : ms[j]? = some m) : ((ms.take (j + 1)).map fun m => m.xs.length).sum = ((ms.take j).map fun m => m.xs.length).sum + m.xs.length := by
  obtain ⟨hj, he⟩ := List.getElem?_eq_some_iff.1 hm
  rw [List.take_succ_eq_append_getElem hj, he]
  simp
theorem tot_le (ms : List Mn) (j : Nat) : ((ms.take j).map fun m => m.xs.length).sum ≤ (ms.map fun m => m.xs.length).sum := by
  have := congrArg List.sum (List.take_append_drop j (ms.map fun m => m.xs.length))
  rw [List.sum_append] at this
  rw [List.map_take]
  omega



