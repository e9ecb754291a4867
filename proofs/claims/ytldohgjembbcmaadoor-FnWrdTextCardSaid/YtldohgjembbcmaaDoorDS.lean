/- The library's tables and errors that strconv reads: what is laid reads as its cells; and it reads so again behind a call that leaves old memory alone. Conditions: the listed variables are laid. -/
import Derived.Test.YtldohgjembbcmaaDoorRows
import Derived.Test.YtldohgjembbcmaaDoorTie
import Derived.Test.YtldohgjembbcmaaDoorR
import Derived.Test.YtldohgjembbcmaaDoorF
import Derived.LaidMore
import Derived.LaidHandle
import Derived.ChangeVars
import Derived.ChangeArms
import Derived.ChangeOld
import Derived.Carry
import Derived.Stop.Joined
import Derived.Stop.LaidErr
import Derived.Lib.LaidTab
import Derived.Lib.SmallJoins
import Derived.Shelf.Strconv.Itoa3
import Derived.ChangeMaps5
namespace Go.Proofs.YtldohgjembbcmaaDoor
open Go Go.RowKit Go.ChangeShapes Go.WideShapes Go.Deep Go.ChangeAt
set_option linter.unusedVariables false
set_option linter.unusedSimpArgs false

def laidL3 : List (String × DataW Unit) := [("math/bits.deBruijn32tab", Rows.laid_math_bits_deBruijn32tab), ("math/bits.deBruijn64tab", Rows.laid_math_bits_deBruijn64tab), ("internal/strconv.uint64pow10", Rows.laid_internal_strconv_uint64pow10)]
def laidL5 : List (String × DataW Unit) := [("math/bits.deBruijn32tab", Rows.laid_math_bits_deBruijn32tab), ("math/bits.deBruijn64tab", Rows.laid_math_bits_deBruijn64tab), ("internal/strconv.uint64pow10", Rows.laid_internal_strconv_uint64pow10), ("strconv.ErrRange", Rows.laid_strconv_ErrRange), ("strconv.ErrSyntax", Rows.laid_strconv_ErrSyntax)]
set_option maxRecDepth 100000 in
theorem door_met3 (os : Os) (args : Array Value) : laidMetH Tryd.prog laidL3 ((World.doorLaid Tryd.prog 62 os).forCall (fun _ _ => 0) ⟨#[], args, []⟩).memory :=
  laidMetH_of_parts3 (fuel := 8) (laidMet_of_run' 8 (by kernel_rfl) (by kernel_rfl)) (by kernel_rfl) (by kernel_rfl)
set_option maxRecDepth 100000 in
theorem door_met5 (os : Os) (args : Array Value) : laidMetH Tryd.prog laidL5 ((World.doorLaid Tryd.prog 62 os).forCall (fun _ _ => 0) ⟨#[], args, []⟩).memory :=
  laidMetH_of_parts3 (fuel := 8) (laidMet_of_run' 8 (by kernel_rfl) (by kernel_rfl)) (by kernel_rfl) (by kernel_rfl)

theorem var_ext {w w' : World} {n : String} {cs : Array Value} (hv : w.var? Tryd.prog n = some cs) (he : Ext w w') : w'.var? Tryd.prog n = some cs := by
  unfold World.var? at hv ⊢
  cases hg : Tryd.prog.globalNamed n with
  | none => simp [hg] at hv
  | some g =>
    simp only [hg, Option.bind_some] at hv ⊢
    have hlt : g < w.heap.size := by
      rcases Nat.lt_or_ge g w.heap.size with h | h
      · exact h
      · rw [Array.getElem?_eq_none h] at hv
        cases hv
    rw [he.block hlt]
    exact hv
/-- The table of the tens' powers is laid. -/
def LaidAt3 (w : World) : Prop := Lib.TabIs Tryd.prog w "internal/strconv.uint64pow10" .u64 Lib.pow10Tab
/-- And so are the two errors. -/
def LaidAt5 (w : World) : Prop := LaidAt3 w ∧ (∃ a, w.var? Tryd.prog "strconv.ErrRange" = some #[.iface 75 (.pointer (some a))]) ∧ ∃ a, w.var? Tryd.prog "strconv.ErrSyntax" = some #[.iface 75 (.pointer (some a))]
theorem LaidAt3.ext {w w' : World} (h : LaidAt3 w) (he : Ext w w') : LaidAt3 w' := var_ext h he
theorem LaidAt5.ext {w w' : World} (h : LaidAt5 w) (he : Ext w w') : LaidAt5 w' :=
  let ⟨h1, ⟨a, h2⟩, b, h3⟩ := h
  ⟨h1.ext he, ⟨a, var_ext h2 he⟩, b, var_ext h3 he⟩
theorem pow_named : Tryd.prog.globalNamed "internal/strconv.uint64pow10" = some 2 := by kernel_rfl
theorem pow_type : (Tryd.prog.globals[2]?).map (·.type) = some 69 := by kernel_rfl
theorem pow_data : (Rows.laid_internal_strconv_uint64pow10 : DataW Unit) = Lib.tabData .u64 Lib.pow10Tab := by rfl
theorem u64_cells : Tryd.prog.cellsOf 56 = 1 := by kernel_rfl
theorem tab_cells : Tryd.prog.cellsOf 69 = 20 := by kernel_rfl
theorem laidAt_of3 {W : World} (h : laidMetH Tryd.prog laidL3 W) : LaidAt3 W := by
  have e : (laidL3.filter fun x => x.2.handleName?.isSome) = [] := by kernel_rfl
  unfold laidMetH at h
  rw [e] at h
  have h2 : laidMet Tryd.prog (("internal/strconv.uint64pow10", Lib.tabData .u64 Lib.pow10Tab) :: []) W := h.tail.tail
  exact Lib.tabIs_of_head pow_named pow_type Tryd.underlying69 Tryd.underlying56 u64_cells tab_cells h2
theorem range_named : Tryd.prog.globalNamed "strconv.ErrRange" = some 1 := by kernel_rfl
theorem range_type : (Tryd.prog.globals[1]?).map (·.type) = some 33 := by kernel_rfl
theorem syntax_named : Tryd.prog.globalNamed "strconv.ErrSyntax" = some 0 := by kernel_rfl
theorem syntax_type : (Tryd.prog.globals[0]?).map (·.type) = some 33 := by kernel_rfl
theorem err_star : "*" ++ "errors.errorString" = "*errors.errorString" := by decide
theorem err_row (u : TypeId) (h : Tryd.prog.typeName? 3 u = some "*errors.errorString") : u = 75 :=
  typeName_ptr_named (nm := "errors.errorString") (by rw [err_star]; kernel_rfl) (by kernel_rfl) (by decide) u (by rw [err_star]; exact h)
theorem err_cells : Tryd.prog.cellsOf 77 = 1 := by kernel_rfl
theorem str_cells : Tryd.prog.cellsOf 9 = 1 := by kernel_rfl
theorem laidAt_of5 {W : World} (h : laidMetH Tryd.prog laidL5 W) : LaidAt5 W := by
  have e : (laidL5.filter fun x => x.2.handleName?.isSome) = [] := by kernel_rfl
  unfold laidMetH at h
  rw [e] at h
  have h2 : laidMet Tryd.prog (("internal/strconv.uint64pow10", Lib.tabData .u64 Lib.pow10Tab) :: ("strconv.ErrRange", Rows.laid_strconv_ErrRange) :: ("strconv.ErrSyntax", Rows.laid_strconv_ErrSyntax) :: []) W := h.tail.tail
  obtain ⟨a, s, hv, _⟩ := laid_sentinel h2.tail range_named range_type Tryd.underlying33 err_row Tryd.underlying75 Tryd.underlying77 rfl rfl Tryd.underlying9 err_cells str_cells
  obtain ⟨a', s', hv', _⟩ := laid_sentinel h2.tail.tail syntax_named syntax_type Tryd.underlying33 err_row Tryd.underlying75 Tryd.underlying77 rfl rfl Tryd.underlying9 err_cells str_cells
  exact ⟨Lib.tabIs_of_head pow_named pow_type Tryd.underlying69 Tryd.underlying56 u64_cells tab_cells h2, ⟨a, hv⟩, a', hv'⟩
set_option maxRecDepth 100000 in
theorem read_string {H : Type} {enc : TypeId × Value → H} {W : World} {base : Nat} {v : Value} {d : DataW H} {p : List MemPlace} (hv : Value.okWide Tryd.prog W .any base 9 v) (h : DataW.Trod enc Tryd.prog W 0 (fun _ => true) true 9 v d p) :
    ∃ s : ByteArray, v = .string s ∧ s.size ≤ maxLen := by
  obtain ⟨s, e, _, _, hs⟩ := Go.ChangeMaps.open_string Tryd.underlying9 hv h
  exact ⟨s, e, hs⟩
end Go.Proofs.YtldohgjembbcmaaDoor
