/- Contracts of the draws of words, and of the laws' own 'laOk'. Conditions: none. -/
import Derived.Test.YtcjeeggffeoilaaD
namespace Go.Proofs.Ytcjeeggffeoilaa
open Go Go.RowKit
set_option linter.unusedVariables false
set_option linter.unusedSimpArgs false

theorem laOk_ (w : World) : Calls Try.prog 10 #[] w fun e w' => e = .returned (.bool true) ∧ w = w' := by
  have h1 : wrdOk 1 = true := by decide
  go_enter Try.func10, Try.ntmps10
  go_wp2_with (go_at_call 31; refine (implWrdOk _ _).mono ?_; rintro e w' ⟨rfl, rfl⟩; rw [h1])
  go_ret
  exact ⟨rfl, rfl⟩

def Ret3 (w : World) (e : Ending) (w' : World) : Prop := ∃ o a b : Int, e = .returned (.tuple #[.int .i64 o, .int .i64 a, .int .i64 b]) ∧ Ext w w'



