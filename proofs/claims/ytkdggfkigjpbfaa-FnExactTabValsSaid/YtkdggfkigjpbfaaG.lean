/- Contracts of what makes a word or an atom a sum. Conditions: none. -/
import Derived.Test.YtkdggfkigjpbfaaN
import Derived.Test.YtkdggfkigjpbfaaU
import Derived.Test.YtkdggfkigjpbfaaH
namespace Go.Proofs.Ytkdggfkigjpbfaa
open Go Go.RowKit
set_option linter.unusedVariables false
set_option linter.unusedSimpArgs false

def polConst (n : Int) : List (Int × List Int) := if inB n 1 65535 then [(n, [])] else []
def polAtom (n : Int) : List (Int × List Int) := if inB n 0 199 then [(1, [n])] else []
section
variable {TM TI : TypeId} {w : World}
theorem OI.nil (w : World) (lo : Nat) : OI TI w lo none 0 [] := ⟨rfl, .inl ⟨rfl, rfl⟩⟩
theorem OI.lit (w : World) (x : Int) : OI TI (w.alloc (.cells #[.int .i64 x] TI)) w.heap.size (some ⟨w.heap.size, 0, none⟩) 1 [x] := World.ownsRow_lit w #[.int .i64 x] 1 (Nat.le_refl _) (by unfold maxLen; omega) rfl
theorem OM.nil (w : World) (lo : Nat) : OM TM TI w lo none 0 [] := ⟨⟨rfl, .inl ⟨rfl, rfl⟩⟩, fun _ h => (by cases h), List.Pairwise.nil⟩
theorem OM.lit {lo : Nat} (m : Mn) (h : OI TI w lo m.A m.k m.xs) (hl : lo ≤ w.heap.size) : OM TM TI (w.alloc (.cells #[.int .i64 m.c, .slice m.A m.xs.length m.k] TM)) lo (some ⟨w.heap.size, 0, none⟩) 1 [m] :=
  ⟨World.ownsRow_lit w #[.int .i64 m.c, .slice m.A m.xs.length m.k] 1 hl (by unfold maxLen; omega) rfl, fun x hx => by rw [List.mem_singleton.1 hx]; exact h.ext ((Ext.refl _).alloc _), List.pairwise_singleton _ _⟩
end









theorem tot_one_of {ms : List Mn} {d : List (Int × List Int)} (h : ms.map Mn.dat = d) (hd : d = [] ∨ ∃ c xs, d = [(c, xs)] ∧ xs.length ≤ 1) : totM ms ≤ 2 := by
  rcases hd with rfl | ⟨c, xs, rfl, hx⟩
  · have : ms = [] := by simpa using h
    subst this
    exact Nat.zero_le _
  · match ms, h with
    | [m], h =>
      injection h with h _
      injection h with _ h
      subst h
      simp [totM]
      omega
theorem tot_const {ms : List Mn} {n : Int} (h : ms.map Mn.dat = polConst n) : totM ms ≤ 2 := tot_one_of h (by
  unfold polConst
  split
  · exact .inr ⟨_, _, rfl, by simp⟩
  · exact .inl rfl)
theorem tot_atom {ms : List Mn} {n : Int} (h : ms.map Mn.dat = polAtom n) : totM ms ≤ 2 := tot_one_of h (by
  unfold polAtom
  split
  · exact .inr ⟨_, _, rfl, by simp⟩
  · exact .inl rfl)
end Go.Proofs.Ytkdggfkigjpbfaa
