/- Whether an operation of a piece of code is ok: the contract of the program's opOk. Conditions: lengths that a machine can hold. -/
import Derived.Test.YtcjeeggffeoilaaRM
import Derived.Deep.DeepCutAuto
namespace Go.Proofs.Ytcjeeggffeoilaa
open Go Go.RowKit
set_option linter.unusedVariables false
set_option linter.unusedSimpArgs false

def opB (ops : List Op5) (size : Int) (n : Nat) (o : Op5) : Bool :=
  inB o.kind 1 8 && ((if hasX o.kind then valB ops o.x n else (o.x == 0)) && ((if hasY o.kind then valB ops o.y n else (o.y == 0)) && ((if hasK o.kind then kfit o.kind o.k else (o.k == 0)) && (if hasA o.kind then inB o.at_ 0 (size - 1) else (o.at_ == 0)))))

theorem arr_back {t t' : Array Value} (S : List Nat) (h : ∀ j, j ∉ S → t'[j]? = t[j]?) (hs : t'.size = t.size) : t' = S.foldl (fun acc j => acc.setIfInBounds j (t'.getD j undef)) t := by
  have hsz : ∀ (S : List Nat) (acc : Array Value), (S.foldl (fun acc j => acc.setIfInBounds j (t'.getD j undef)) acc).size = acc.size := by
    intro S
    induction S with
    | nil => intro acc; rfl
    | cons a S ih => intro acc; rw [List.foldl_cons, ih]; simp
  have hg : ∀ (S : List Nat) (acc : Array Value) (j : Nat), acc.size = t'.size → (j ∈ S → (S.foldl (fun acc j => acc.setIfInBounds j (t'.getD j undef)) acc)[j]? = t'[j]?) ∧ (j ∉ S → (S.foldl (fun acc j => acc.setIfInBounds j (t'.getD j undef)) acc)[j]? = acc[j]?) := by
    intro S
    induction S with
    | nil => intro acc j _; exact ⟨fun h => (by cases h), fun _ => rfl⟩
    | cons a S ih =>
      intro acc j ha
      rw [List.foldl_cons]
      obtain ⟨i1, i2⟩ := ih (acc.setIfInBounds a (t'.getD a undef)) j (by simpa using ha)
      refine ⟨fun hj => ?_, fun hj => ?_⟩
      · by_cases hS : j ∈ S
        · exact i1 hS
        · have e : a = j := by
            rcases List.mem_cons.1 hj with e | e
            · exact e.symm
            · exact absurd e hS
          subst e
          rw [i2 hS, Array.getElem?_setIfInBounds_self]
          split
          · next hlt => rw [Array.getD_eq_getD_getElem?, Array.getElem?_eq_getElem (by omega)]; rfl
          · next hge => rw [Array.getElem?_eq_none (by omega)]
      · have hne : a ≠ j := fun e => hj (by rw [e]; exact List.mem_cons_self)
        rw [i2 (fun e => hj (List.mem_cons_of_mem _ e)), Array.getElem?_setIfInBounds_ne hne]
  apply Array.ext_getElem?
  intro j
  by_cases hj : j ∈ S
  · exact ((hg S t j hs.symm).1 hj).symm
  · rw [(hg S t j hs.symm).2 hj, h j hj]

end Go.Proofs.Ytcjeeggffeoilaa
