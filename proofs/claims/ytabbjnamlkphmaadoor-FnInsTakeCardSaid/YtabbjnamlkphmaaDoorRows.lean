/-
  NARROWER THAN 'FOR EVERY INPUT', by the rows' own cells (each row's printed sentence says how): FnExactInsOk: laid · FnExactInsPut: laid · FnExactInsTake: laid · FnExactBlkOk: laid · FnExactBlkWords: laid · FnInsTake: laid · FnExactBlkTake: laid.
  DERIVED. THE GIVEN ROWS OF THIS SEAT. 7 by the template 'for every input the law returns true; each argument reads behind the call as it read before'; 0 by the template 'total and deterministic' (their statements: YtabbjnamlkphmaaDoorTotals.lean).
  GIVEN WITH THE SEED: the statements are not yours to turn. If you find one false, say at which input.
  Laid BY PROGRAM, IN A SANDBOX (cutbox-rows.mjs): the forced cells as the released guide's own fill.sh prints them over the translation 3bb1e47f6bf9f0cb… (all of the seat's roots in one cut). By AI agents, Wed Nov 11 2026. No macro, syntax, notation, axiom, sorry.
-/
import Derived.Test.YtabbjnamlkphmaaDoorChecked
import GoSem.Claim
import GoSem.ClaimJoined
import GoSem.ClaimMapViews
import Derived.JoinedTies
import Derived.KernelRfl
namespace Go.Proofs.YtabbjnamlkphmaaDoor
/- THE CELL 'sum', in the pinned program and in every row, IS THE sha256 OF THE DUMP (.gsa) THAT YtabbjnamlkphmaaDoorProg.lean LOADS. Nothing in Lean hashes anything: it is a label: what it is worth is what the hold of that sum in a sandbox is worth. -/
noncomputable def Tryd.pinned : Pinned := { name := "ytabbjnamlkphmaadoor", sum := "3bb1e47f6bf9f0cb0062f2ea4dc5be2085b832b2b7fead4a2b511842b504f99b", checked := Tryd.checked }
namespace Rows
def none {H : Type} : Left H := { results := [], args := [] }

/- WHAT THE LISTED PACKAGE-LEVEL VARIABLES READ AS WHEN THE CALL BEGINS. Each datum BY PROGRAM (the guide's laid-datum.mjs) off the statement by which the dump's own 'gosem.cut.vars' lays the variable. In a bare row this is a premise. The card (YtabbjnamlkphmaaDoorCards.lean) ties it to the program's text. -/
def laid_loop_example_latimer_impl_forms {H : Type} : DataW H := .slice [.agg [.lit (.bool false), .lit (.bool false), .lit (.int .i64 3), .slice [.lit (.string [115, 116, 111, 112]), .lit (.string [114, 101, 116, 117, 114, 110]), .lit (.string [108, 101, 116]), .lit (.string [107, 101, 101, 112])] []], .agg [.lit (.bool true), .lit (.bool false), .lit (.int .i64 255), .slice [.lit (.string [115, 101, 116])] []], .agg [.lit (.bool true), .lit (.bool true), .lit (.int .i64 0), .slice [.lit (.string [109, 111, 118, 101])] []], .agg [.lit (.bool true), .lit (.bool true), .lit (.int .i64 3), .slice [.lit (.string [97, 100, 100])] []], .agg [.lit (.bool true), .lit (.bool true), .lit (.int .i64 3), .slice [.lit (.string [115, 117, 98])] []], .agg [.lit (.bool true), .lit (.bool true), .lit (.int .i64 3), .slice [.lit (.string [109, 117, 108])] []], .agg [.lit (.bool true), .lit (.bool true), .lit (.int .i64 3), .slice [.lit (.string [97, 110, 100])] []], .agg [.lit (.bool true), .lit (.bool true), .lit (.int .i64 3), .slice [.lit (.string [120, 111, 114])] []], .agg [.lit (.bool true), .lit (.bool true), .lit (.int .i64 15), .slice [.lit (.string [115, 104, 105, 102, 116])] []], .agg [.lit (.bool true), .lit (.bool true), .lit (.int .i64 255), .slice [.lit (.string [108, 111, 97, 100])] []], .agg [.lit (.bool true), .lit (.bool true), .lit (.int .i64 255), .slice [.lit (.string [115, 116, 111, 114, 101])] []], .agg [.lit (.bool true), .lit (.bool true), .lit (.int .i64 255), .slice [.lit (.string [115, 97, 109, 101])] []], .agg [.lit (.bool true), .lit (.bool true), .lit (.int .i64 255), .slice [.lit (.string [108, 101, 115, 115])] []], .agg [.lit (.bool false), .lit (.bool true), .lit (.int .i64 0), .slice [.lit (.string [103, 111])] []], .agg [.lit (.bool true), .lit (.bool false), .lit (.int .i64 0), .slice [.lit (.string [111, 117, 116])] []], .agg [.lit (.bool true), .lit (.bool false), .lit (.int .i64 0), .slice [.lit (.string [105, 110])] []]] []

/-- 'laws.FnExactInsOk': WHATEVER THE INPUT: true; the input reads as it did. -/
def fnExactInsOkSpec : ChangeSpec := { name := "fnExactInsOk", vars := ["loop.example/latimer/impl.forms"], fn := fun _ => fun
  | [d, g1] => { results := [.lit (.bool true)], args := [d], vars := [g1] }
  | _ => none }
def fnExactInsOkRow : OpenClaim := { program := "ytabbjnamlkphmaadoor", sum := "3bb1e47f6bf9f0cb0062f2ea4dc5be2085b832b2b7fead4a2b511842b504f99b", func := "loop.example/latimer/laws.FnExactInsOk", spec := "fnExactInsOk", named := ["loop.example/latimer/impl.forms"], apart := false, laid := [("loop.example/latimer/impl.forms", laid_loop_example_latimer_impl_forms)] }
def FnExactInsOkSaid : Prop := fnExactInsOkRow.holds Tryd.pinned (OpenSpec.ofChange fnExactInsOkSpec)

/-- ITS FALSE NEIGHBOUR: 'it returns false'. Refute it at one input. -/
def fnExactInsOkWrong : ChangeSpec := { name := "fnExactInsOk", vars := ["loop.example/latimer/impl.forms"], fn := fun _ => fun
  | [d, g1] => { results := [.lit (.bool false)], args := [d], vars := [g1] }
  | _ => none }
def FnExactInsOkWrongFalsely : Prop := fnExactInsOkRow.holds Tryd.pinned (OpenSpec.ofChange fnExactInsOkWrong)

/-- 'laws.FnExactInsPut': WHATEVER THE INPUT: true; the input reads as it did. -/
def fnExactInsPutSpec : ChangeSpec := { name := "fnExactInsPut", vars := ["loop.example/latimer/impl.forms"], fn := fun _ => fun
  | [d, g1] => { results := [.lit (.bool true)], args := [d], vars := [g1] }
  | _ => none }
def fnExactInsPutRow : OpenClaim := { program := "ytabbjnamlkphmaadoor", sum := "3bb1e47f6bf9f0cb0062f2ea4dc5be2085b832b2b7fead4a2b511842b504f99b", func := "loop.example/latimer/laws.FnExactInsPut", spec := "fnExactInsPut", named := ["loop.example/latimer/impl.forms"], apart := false, laid := [("loop.example/latimer/impl.forms", laid_loop_example_latimer_impl_forms)] }
def FnExactInsPutSaid : Prop := fnExactInsPutRow.holds Tryd.pinned (OpenSpec.ofChange fnExactInsPutSpec)

/-- ITS FALSE NEIGHBOUR: 'it returns false'. Refute it at one input. -/
def fnExactInsPutWrong : ChangeSpec := { name := "fnExactInsPut", vars := ["loop.example/latimer/impl.forms"], fn := fun _ => fun
  | [d, g1] => { results := [.lit (.bool false)], args := [d], vars := [g1] }
  | _ => none }
def FnExactInsPutWrongFalsely : Prop := fnExactInsPutRow.holds Tryd.pinned (OpenSpec.ofChange fnExactInsPutWrong)

/-- 'laws.FnExactInsTake': WHATEVER THE INPUT: true; the input reads as it did. -/
def fnExactInsTakeSpec : ChangeSpec := { name := "fnExactInsTake", vars := ["loop.example/latimer/impl.forms"], fn := fun _ => fun
  | [d, g1] => { results := [.lit (.bool true)], args := [d], vars := [g1] }
  | _ => none }
def fnExactInsTakeRow : OpenClaim := { program := "ytabbjnamlkphmaadoor", sum := "3bb1e47f6bf9f0cb0062f2ea4dc5be2085b832b2b7fead4a2b511842b504f99b", func := "loop.example/latimer/laws.FnExactInsTake", spec := "fnExactInsTake", named := ["loop.example/latimer/impl.forms"], apart := false, laid := [("loop.example/latimer/impl.forms", laid_loop_example_latimer_impl_forms)] }
def FnExactInsTakeSaid : Prop := fnExactInsTakeRow.holds Tryd.pinned (OpenSpec.ofChange fnExactInsTakeSpec)

/-- ITS FALSE NEIGHBOUR: 'it returns false'. Refute it at one input. -/
def fnExactInsTakeWrong : ChangeSpec := { name := "fnExactInsTake", vars := ["loop.example/latimer/impl.forms"], fn := fun _ => fun
  | [d, g1] => { results := [.lit (.bool false)], args := [d], vars := [g1] }
  | _ => none }
def FnExactInsTakeWrongFalsely : Prop := fnExactInsTakeRow.holds Tryd.pinned (OpenSpec.ofChange fnExactInsTakeWrong)

/-- 'laws.FnExactBlkOk': WHATEVER THE INPUT: true; the input reads as it did. -/
def fnExactBlkOkSpec : ChangeSpec := { name := "fnExactBlkOk", vars := ["loop.example/latimer/impl.forms"], fn := fun _ => fun
  | [d1, d2, g1] => { results := [.lit (.bool true)], args := [d1, d2], vars := [g1] }
  | _ => none }
def fnExactBlkOkRow : OpenClaim := { program := "ytabbjnamlkphmaadoor", sum := "3bb1e47f6bf9f0cb0062f2ea4dc5be2085b832b2b7fead4a2b511842b504f99b", func := "loop.example/latimer/laws.FnExactBlkOk", spec := "fnExactBlkOk", named := ["loop.example/latimer/impl.forms"], apart := false, laid := [("loop.example/latimer/impl.forms", laid_loop_example_latimer_impl_forms)] }
def FnExactBlkOkSaid : Prop := fnExactBlkOkRow.holds Tryd.pinned (OpenSpec.ofChange fnExactBlkOkSpec)

/-- ITS FALSE NEIGHBOUR: 'it returns false'. Refute it at one input. -/
def fnExactBlkOkWrong : ChangeSpec := { name := "fnExactBlkOk", vars := ["loop.example/latimer/impl.forms"], fn := fun _ => fun
  | [d1, d2, g1] => { results := [.lit (.bool false)], args := [d1, d2], vars := [g1] }
  | _ => none }
def FnExactBlkOkWrongFalsely : Prop := fnExactBlkOkRow.holds Tryd.pinned (OpenSpec.ofChange fnExactBlkOkWrong)

/-- 'laws.FnExactBlkWords': WHATEVER THE INPUT: true; the input reads as it did. -/
def fnExactBlkWordsSpec : ChangeSpec := { name := "fnExactBlkWords", vars := ["loop.example/latimer/impl.forms"], fn := fun _ => fun
  | [d, g1] => { results := [.lit (.bool true)], args := [d], vars := [g1] }
  | _ => none }
def fnExactBlkWordsRow : OpenClaim := { program := "ytabbjnamlkphmaadoor", sum := "3bb1e47f6bf9f0cb0062f2ea4dc5be2085b832b2b7fead4a2b511842b504f99b", func := "loop.example/latimer/laws.FnExactBlkWords", spec := "fnExactBlkWords", named := ["loop.example/latimer/impl.forms"], apart := false, laid := [("loop.example/latimer/impl.forms", laid_loop_example_latimer_impl_forms)] }
def FnExactBlkWordsSaid : Prop := fnExactBlkWordsRow.holds Tryd.pinned (OpenSpec.ofChange fnExactBlkWordsSpec)

/-- ITS FALSE NEIGHBOUR: 'it returns false'. Refute it at one input. -/
def fnExactBlkWordsWrong : ChangeSpec := { name := "fnExactBlkWords", vars := ["loop.example/latimer/impl.forms"], fn := fun _ => fun
  | [d, g1] => { results := [.lit (.bool false)], args := [d], vars := [g1] }
  | _ => none }
def FnExactBlkWordsWrongFalsely : Prop := fnExactBlkWordsRow.holds Tryd.pinned (OpenSpec.ofChange fnExactBlkWordsWrong)

/-- 'laws.FnInsTake': WHATEVER THE INPUT: true; the input reads as it did. -/
def fnInsTakeSpec : ChangeSpec := { name := "fnInsTake", vars := ["loop.example/latimer/impl.forms"], fn := fun _ => fun
  | [d1, d2, g1] => { results := [.lit (.bool true)], args := [d1, d2], vars := [g1] }
  | _ => none }
def fnInsTakeRow : OpenClaim := { program := "ytabbjnamlkphmaadoor", sum := "3bb1e47f6bf9f0cb0062f2ea4dc5be2085b832b2b7fead4a2b511842b504f99b", func := "loop.example/latimer/laws.FnInsTake", spec := "fnInsTake", named := ["loop.example/latimer/impl.forms"], apart := false, laid := [("loop.example/latimer/impl.forms", laid_loop_example_latimer_impl_forms)] }
def FnInsTakeSaid : Prop := fnInsTakeRow.holds Tryd.pinned (OpenSpec.ofChange fnInsTakeSpec)

/-- ITS FALSE NEIGHBOUR: 'it returns false'. Refute it at one input. -/
def fnInsTakeWrong : ChangeSpec := { name := "fnInsTake", vars := ["loop.example/latimer/impl.forms"], fn := fun _ => fun
  | [d1, d2, g1] => { results := [.lit (.bool false)], args := [d1, d2], vars := [g1] }
  | _ => none }
def FnInsTakeWrongFalsely : Prop := fnInsTakeRow.holds Tryd.pinned (OpenSpec.ofChange fnInsTakeWrong)

/-- 'laws.FnExactBlkTake': WHATEVER THE INPUT: true; the input reads as it did. -/
def fnExactBlkTakeSpec : ChangeSpec := { name := "fnExactBlkTake", vars := ["loop.example/latimer/impl.forms"], fn := fun _ => fun
  | [d, g1] => { results := [.lit (.bool true)], args := [d], vars := [g1] }
  | _ => none }
def fnExactBlkTakeRow : OpenClaim := { program := "ytabbjnamlkphmaadoor", sum := "3bb1e47f6bf9f0cb0062f2ea4dc5be2085b832b2b7fead4a2b511842b504f99b", func := "loop.example/latimer/laws.FnExactBlkTake", spec := "fnExactBlkTake", named := ["loop.example/latimer/impl.forms"], apart := false, laid := [("loop.example/latimer/impl.forms", laid_loop_example_latimer_impl_forms)] }
def FnExactBlkTakeSaid : Prop := fnExactBlkTakeRow.holds Tryd.pinned (OpenSpec.ofChange fnExactBlkTakeSpec)

/-- ITS FALSE NEIGHBOUR: 'it returns false'. Refute it at one input. -/
def fnExactBlkTakeWrong : ChangeSpec := { name := "fnExactBlkTake", vars := ["loop.example/latimer/impl.forms"], fn := fun _ => fun
  | [d, g1] => { results := [.lit (.bool false)], args := [d], vars := [g1] }
  | _ => none }
def FnExactBlkTakeWrongFalsely : Prop := fnExactBlkTakeRow.holds Tryd.pinned (OpenSpec.ofChange fnExactBlkTakeWrong)

/- THE SECOND FORM. 'bulk': how many values and letters a reading holds, each counted each time it is reached (what is shared counts as often as it is met; a slice's spare places count too). A statement '..UptoSaid' is the law's where the arguments, and the package variables that the reading takes, are together of bulk at most 1048576: NARROWER than '..Said'. Prove '..Said' where nothing that the law and all that it calls make is longer than what came in: it says more and counts as full. Else prove '..UptoSaid'. A law counts once. -/
mutual
def uptoBulk {H : Type} : DataW H → Nat
  | .lit (.string bytes) => bytes.length + 1
  | .lit _ => 1
  | .nil => 1
  | .ptr d => uptoBulk d + 1
  | .slice elems spare => uptoBulkAll elems + uptoBulkAll spare + 1
  | .agg parts => uptoBulkAll parts + 1
  | .iface _ d => uptoBulk d + 1
  | .map entries => uptoBulkEntries entries + 1
  | .held _ => 1
def uptoBulkAll {H : Type} : List (DataW H) → Nat
  | [] => 0
  | d :: r => uptoBulk d + uptoBulkAll r
def uptoBulkEntries {H : Type} : List (Lit × DataW H) → Nat
  | [] => 0
  | x :: r => uptoBulkEntry x + uptoBulkEntries r
def uptoBulkEntry {H : Type} : Lit × DataW H → Nat
  | (.string bytes, d) => bytes.length + uptoBulk d + 1
  | (_, d) => uptoBulk d + 1
 end
def uptoSmall : (H : Type) → List (DataW H) → Bool := fun _ ds => decide (uptoBulkAll ds ≤ 1048576)
def OpenSpec.upto (s : _root_.Go.ChangeSpec) : _root_.Go.OpenSpec := { _root_.Go.OpenSpec.ofChange s with cond := some uptoSmall }

/-- 'laws.FnExactInsOk', WHERE WHAT IT READS IS OF BULK AT MOST 1048576: true; the input reads as it did. -/
def fnExactInsOkUptoRow : OpenClaim := { program := "ytabbjnamlkphmaadoor", sum := "3bb1e47f6bf9f0cb0062f2ea4dc5be2085b832b2b7fead4a2b511842b504f99b", func := "loop.example/latimer/laws.FnExactInsOk", spec := "fnExactInsOk", named := ["loop.example/latimer/impl.forms"], apart := false, laid := [("loop.example/latimer/impl.forms", laid_loop_example_latimer_impl_forms)], narrowed := true }
def FnExactInsOkUptoSaid : Prop := fnExactInsOkUptoRow.holds Tryd.pinned (OpenSpec.upto fnExactInsOkSpec)

/-- 'laws.FnExactInsPut', WHERE WHAT IT READS IS OF BULK AT MOST 1048576: true; the input reads as it did. -/
def fnExactInsPutUptoRow : OpenClaim := { program := "ytabbjnamlkphmaadoor", sum := "3bb1e47f6bf9f0cb0062f2ea4dc5be2085b832b2b7fead4a2b511842b504f99b", func := "loop.example/latimer/laws.FnExactInsPut", spec := "fnExactInsPut", named := ["loop.example/latimer/impl.forms"], apart := false, laid := [("loop.example/latimer/impl.forms", laid_loop_example_latimer_impl_forms)], narrowed := true }
def FnExactInsPutUptoSaid : Prop := fnExactInsPutUptoRow.holds Tryd.pinned (OpenSpec.upto fnExactInsPutSpec)

/-- 'laws.FnExactInsTake', WHERE WHAT IT READS IS OF BULK AT MOST 1048576: true; the input reads as it did. -/
def fnExactInsTakeUptoRow : OpenClaim := { program := "ytabbjnamlkphmaadoor", sum := "3bb1e47f6bf9f0cb0062f2ea4dc5be2085b832b2b7fead4a2b511842b504f99b", func := "loop.example/latimer/laws.FnExactInsTake", spec := "fnExactInsTake", named := ["loop.example/latimer/impl.forms"], apart := false, laid := [("loop.example/latimer/impl.forms", laid_loop_example_latimer_impl_forms)], narrowed := true }
def FnExactInsTakeUptoSaid : Prop := fnExactInsTakeUptoRow.holds Tryd.pinned (OpenSpec.upto fnExactInsTakeSpec)

/-- 'laws.FnExactBlkOk', WHERE WHAT IT READS IS OF BULK AT MOST 1048576: true; the input reads as it did. -/
def fnExactBlkOkUptoRow : OpenClaim := { program := "ytabbjnamlkphmaadoor", sum := "3bb1e47f6bf9f0cb0062f2ea4dc5be2085b832b2b7fead4a2b511842b504f99b", func := "loop.example/latimer/laws.FnExactBlkOk", spec := "fnExactBlkOk", named := ["loop.example/latimer/impl.forms"], apart := false, laid := [("loop.example/latimer/impl.forms", laid_loop_example_latimer_impl_forms)], narrowed := true }
def FnExactBlkOkUptoSaid : Prop := fnExactBlkOkUptoRow.holds Tryd.pinned (OpenSpec.upto fnExactBlkOkSpec)

/-- 'laws.FnExactBlkWords', WHERE WHAT IT READS IS OF BULK AT MOST 1048576: true; the input reads as it did. -/
def fnExactBlkWordsUptoRow : OpenClaim := { program := "ytabbjnamlkphmaadoor", sum := "3bb1e47f6bf9f0cb0062f2ea4dc5be2085b832b2b7fead4a2b511842b504f99b", func := "loop.example/latimer/laws.FnExactBlkWords", spec := "fnExactBlkWords", named := ["loop.example/latimer/impl.forms"], apart := false, laid := [("loop.example/latimer/impl.forms", laid_loop_example_latimer_impl_forms)], narrowed := true }
def FnExactBlkWordsUptoSaid : Prop := fnExactBlkWordsUptoRow.holds Tryd.pinned (OpenSpec.upto fnExactBlkWordsSpec)

/-- 'laws.FnInsTake', WHERE WHAT IT READS IS OF BULK AT MOST 1048576: true; the input reads as it did. -/
def fnInsTakeUptoRow : OpenClaim := { program := "ytabbjnamlkphmaadoor", sum := "3bb1e47f6bf9f0cb0062f2ea4dc5be2085b832b2b7fead4a2b511842b504f99b", func := "loop.example/latimer/laws.FnInsTake", spec := "fnInsTake", named := ["loop.example/latimer/impl.forms"], apart := false, laid := [("loop.example/latimer/impl.forms", laid_loop_example_latimer_impl_forms)], narrowed := true }
def FnInsTakeUptoSaid : Prop := fnInsTakeUptoRow.holds Tryd.pinned (OpenSpec.upto fnInsTakeSpec)

/-- 'laws.FnExactBlkTake', WHERE WHAT IT READS IS OF BULK AT MOST 1048576: true; the input reads as it did. -/
def fnExactBlkTakeUptoRow : OpenClaim := { program := "ytabbjnamlkphmaadoor", sum := "3bb1e47f6bf9f0cb0062f2ea4dc5be2085b832b2b7fead4a2b511842b504f99b", func := "loop.example/latimer/laws.FnExactBlkTake", spec := "fnExactBlkTake", named := ["loop.example/latimer/impl.forms"], apart := false, laid := [("loop.example/latimer/impl.forms", laid_loop_example_latimer_impl_forms)], narrowed := true }
def FnExactBlkTakeUptoSaid : Prop := fnExactBlkTakeUptoRow.holds Tryd.pinned (OpenSpec.upto fnExactBlkTakeSpec)

end Rows
end Go.Proofs.YtabbjnamlkphmaaDoor
