/- Contracts of the draws of words, and of the laws' own 'laOk'. Conditions: none. -/
import Derived.Test.YtpmipopeoiojjaaDoorD
namespace Go.Proofs.YtpmipopeoiojjaaDoor
open Go Go.RowKit
set_option linter.unusedVariables false
set_option linter.unusedSimpArgs false



def Ret3 (w : World) (e : Ending) (w' : World) : Prop := ∃ o a b : Int, e = .returned (.tuple #[.int .i64 o, .int .i64 a, .int .i64 b]) ∧ Ext w w'



