/- The table of forms: what is laid reads as its cells; and it reads so again behind a call that leaves old memory alone. Conditions: the listed variable is laid. -/
import Derived.Test.YtpmipopeoiojjaaDoorRows
import Derived.Test.YtpmipopeoiojjaaDoorTie
import Derived.Test.YtpmipopeoiojjaaDoorR
import Derived.Test.YtpmipopeoiojjaaDoorF
import Derived.LaidMore
import Derived.LaidHandle
import Derived.ChangeVars
import Derived.ChangeArms
import Derived.ChangeOld
import Derived.Carry
import Derived.Stop.Joined
import Derived.Lib.SmallJoins
import Derived.Deep.Slices
namespace Go.Proofs.YtpmipopeoiojjaaDoor
open Go Go.RowKit Go.ChangeShapes Go.WideShapes Go.Deep Go.ChangeAt
set_option linter.unusedVariables false
set_option linter.unusedSimpArgs false

def laidL : List (String × DataW Unit) := [("loop.example/latimer/impl.forms", Rows.laid_loop_example_latimer_impl_forms)]
set_option maxRecDepth 100000 in
theorem door_met (os : Os) (args : Array Value) : laidMetH Tryd.prog laidL ((World.doorLaid Tryd.prog 46 os).forCall (fun _ _ => 0) ⟨#[], args, []⟩).memory :=
  laidMetH_of_parts3 (fuel := 8) (laidMet_of_run' 8 (by kernel_rfl) (by kernel_rfl)) (by kernel_rfl) (by kernel_rfl)

/-- The rows of the table: has D, has A, the greatest K. -/
def formsL : List (Bool × Bool × Int) := [(false, false, 3), (true, false, 255), (true, true, 0), (true, true, 3), (true, true, 3), (true, true, 3), (true, true, 3), (true, true, 3), (true, true, 15), (true, true, 255), (true, true, 255), (true, true, 255), (true, true, 255), (false, true, 0), (true, false, 0), (true, false, 0)]
def rowOf : DataW Unit → Option (Bool × Bool × Int)
  | .agg [.lit (.bool d), .lit (.bool a), .lit (.int _ m), _] => some (d, a, m)
  | _ => none
def elemsOf : DataW Unit → List (DataW Unit)
  | .slice l _ => l
  | _ => []
theorem elems_rows : (elemsOf Rows.laid_loop_example_latimer_impl_forms).map rowOf = formsL.map some := by rfl
def LaidAt (w : World) : Prop := ∃ b o k, w.cell? ⟨0, 0, none⟩ = some (.slice (some ⟨b, o, none⟩) 16 k) ∧
  ∀ i d a m, formsL[i]? = some (d, a, m) → ∃ A n c, w.cell? ⟨b, o + i * 4, none⟩ = some (.bool d) ∧ w.cell? ⟨b, o + i * 4 + 1, none⟩ = some (.bool a) ∧ w.cell? ⟨b, o + i * 4 + 2, none⟩ = some (.int .i64 m) ∧ w.cell? ⟨b, o + i * 4 + 3, none⟩ = some (.slice A n c)
theorem LaidAt.ext {w w' : World} (h : LaidAt w) (he : Ext w w') : LaidAt w' :=
  let ⟨b, o, k, h1, h2⟩ := h
  ⟨b, o, k, keep he h1, fun i d a m hi =>
    let ⟨A, n, c, g0, g1, g2, g3⟩ := h2 i d a m hi
    ⟨A, n, c, keep he g0, keep he g1, keep he g2, keep he g3⟩⟩
theorem bcell1 {W w1 : World} (hb : Ext W w1) : (∀ b o, b < W.heap.size → w1.cell? ⟨b, o, none⟩ = W.cell? ⟨b, o, none⟩) ∧ (∀ b o, b < W.heap.size → w1.frozen? ⟨b, o, none⟩ = W.frozen? ⟨b, o, none⟩) :=
  ⟨fun b o h => hb.cell (p := ⟨b, o, none⟩) h, fun b o h => hb.frozen (p := ⟨b, o, none⟩) h⟩
theorem forms_named : Tryd.prog.globalNamed "loop.example/latimer/impl.forms" = some 0 := by kernel_rfl
theorem forms_type : (Tryd.prog.globals[0]?).map (·.type) = some 51 := by kernel_rfl
theorem form_cells : Tryd.prog.cellsOf 50 = 4 := by kernel_rfl
theorem form_c0 : Tryd.prog.cellsOf 4 = 1 := by kernel_rfl
theorem form_c2 : Tryd.prog.cellsOf 3 = 1 := by kernel_rfl
theorem form_c3 : Tryd.prog.cellsOf 48 = 1 := by kernel_rfl

theorem laidAt_of {W : World} (h : laidMetH Tryd.prog laidL W) : LaidAt W := by
  have e : (laidL.filter fun x => x.2.handleName?.isSome) = [] := by kernel_rfl
  unfold laidMetH at h
  rw [e] at h
  obtain ⟨ps, ⟨g, t, cs, fuel, p, q, hg, ht, hv, hd, _, _⟩, _, _⟩ := h
  obtain rfl := Option.some.inj (forms_named.symm.trans hg)
  obtain rfl := Option.some.inj (forms_type.symm.trans ht)
  have hl16 : (elemsOf Rows.laid_loop_example_latimer_impl_forms).length = 16 := by rfl
  rcases open_slice Tryd.underlying51 hd with ⟨_, hx⟩ | ⟨a, len, cap, m, n, D, Pl, hcs, _, hl, _, hmm, hx, hi⟩
  · have := congrArg (fun y => (elemsOf y.1).length) hx
    simp only at this
    rw [hl16] at this
    simp [elemsOf] at this
  · have hD : elemsOf Rows.laid_loop_example_latimer_impl_forms = (List.range len).map D := congrArg (fun y => elemsOf y.1) hx
    have hlen : len = 16 := by
      have := congrArg List.length hD
      rw [hl16] at this
      simpa using this.symm
    subst hlen
    have hrow : ∀ i, i < 16 → formsL[i]?.map some = some (rowOf (D i)) := fun i hi16 => by
      have := congrArg (fun l : List (Option (Bool × Bool × Int)) => l[i]?) elems_rows
      rw [hD] at this
      simp only [List.getElem?_map, List.getElem?_range hi16, Option.map_some] at this
      exact this.symm
    have hcell : ∀ i, i < 16 → ∃ y0 y1 y2 v3, rowOf (D i) = some (y0, y1, y2) ∧ W.cell? ((a.add (i * 4)).add 0) = some (.bool y0) ∧ W.cell? ((a.add (i * 4)).add 1) = some (.bool y1) ∧ W.cell? ((a.add (i * 4)).add 2) = some (.int .i64 y2) ∧
        W.cell? ((a.add (i * 4)).add 3) = some v3 ∧ ∃ A n c, v3 = .slice A n c := fun i hi16 => by
      obtain ⟨cs', hc, ht'⟩ := hi i (by rw [hmm]; split <;> omega)
      rw [form_cells] at hc
      obtain ⟨_, _, hat⟩ := World.cells?_some hc
      obtain ⟨z0, z1, z2, z3, n', ex, hlc, q0, q1, q2, q3⟩ := Go.Joins.trod_struct4 Tryd.underlying50 ht'
      rw [form_cells] at hlc
      match cs', hlc with
      | [v0, v1, v2, v3], _ =>
        have r0 : DataW.trod _ Tryd.prog W 0 _ _ n' 4 ([v0, v1, v2, v3].drop 0 |>.take (Tryd.prog.cellsOf 4)) = some z0 := q0
        have r1 : DataW.trod _ Tryd.prog W 0 _ _ n' 4 ([v0, v1, v2, v3].drop 1 |>.take (Tryd.prog.cellsOf 4)) = some z1 := q1
        have r2 : DataW.trod _ Tryd.prog W 0 _ _ n' 3 ([v0, v1, v2, v3].drop 2 |>.take (Tryd.prog.cellsOf 3)) = some z2 := q2
        have r3 : DataW.trod _ Tryd.prog W 0 _ _ n' 48 ([v0, v1, v2, v3].drop 3 |>.take (Tryd.prog.cellsOf 48)) = some z3 := q3
        rw [form_c0] at r0 r1
        rw [form_c2] at r2
        rw [form_c3] at r3
        obtain ⟨b0, e0, e0'⟩ := DataW.trod_bool Tryd.underlying4 r0
        obtain ⟨b1, e1, e1'⟩ := DataW.trod_bool Tryd.underlying4 r1
        obtain ⟨n2, e2, e2', _⟩ := DataW.trod_int Tryd.underlying3 r2
        have e3 : ∃ A n c, v3 = .slice A n c := by
          rcases open_slice Tryd.underlying48 r3 with ⟨h3, _⟩ | ⟨_, _, _, _, _, _, _, h3, _⟩
          · simp at h3; exact ⟨_, _, _, h3⟩
          · simp at h3; exact ⟨_, _, _, h3⟩
        simp at e0 e1 e2
        subst e0 e1 e2
        refine ⟨b0, b1, n2, v3, ?_, hat 0 (by omega), hat 1 (by omega), hat 2 (by omega), hat 3 (by omega), e3⟩
        have ed := (Prod.mk.inj ex).1
        rw [ed]
        subst e0' e1' e2'
        rfl
    obtain ⟨y0, y1, y2, v3, _, g0, _⟩ := hcell 0 (by omega)
    simp only [Nat.zero_mul] at g0
    have e0 : (a.add 0).add 0 = a := by simp [Addr.add]
    rw [e0] at g0
    obtain ⟨b, o, rfl⟩ := addr_plain g0
    refine ⟨b, o, cap, ?_, fun i d a' m' hi' => ?_⟩
    · have := World.var?_cell hg hv 0
      rw [← Array.getElem?_toList, hcs] at this
      simpa using this
    · have hi16 : i < 16 := by
        have := (List.getElem?_eq_some_iff.1 hi').1
        exact this
      obtain ⟨y0, y1, y2, v3, hr, g0, g1, g2, g3, A, n3, c3, rfl⟩ := hcell i hi16
      have hh := hrow i hi16
      rw [hi', hr] at hh
      injection hh with hh
      injection hh with hh
      injection hh with h0 hh
      injection hh with h1 h2
      subst h0 h1 h2
      simp only [add_plain, Nat.add_zero] at g0 g1 g2 g3
      exact ⟨A, n3, c3, g0, g1, g2, g3⟩

theorem vars_again {H : Type} {enc : TypeId × Value → H} {w w' : World} {g t fuel : Nat} {cs : Array Value} {d : DataW H} {p : List MemPlace} (hg : Tryd.prog.globalNamed "loop.example/latimer/impl.forms" = some g) (ht : (Tryd.prog.globals[g]?).map (·.type) = some t)
    (hv : w.var? Tryd.prog "loop.example/latimer/impl.forms" = some cs) (hd : DataW.trod enc Tryd.prog w 0 (fun _ => true) true fuel t cs.toList = some (d, p)) (he : Ext w w') :
    DataW.TrodVars enc Tryd.prog w' (fun b => decide (b < w.heap.size)) ["loop.example/latimer/impl.forms"] [d] (MemPlace.row ⟨g, 0, none⟩ cs.size ++ p) := by
  obtain rfl := Option.some.inj (forms_type.symm.trans (by
    obtain rfl := Option.some.inj (forms_named.symm.trans hg)
    exact ht))
  have hb : w'.var? Tryd.prog "loop.example/latimer/impl.forms" = some cs := by
    unfold World.var? at hv ⊢
    rw [hg, Option.bind_some] at hv ⊢
    have hlt : g < w.heap.size := by
      rcases Nat.lt_or_ge g w.heap.size with h | h
      · exact h
      · rw [Array.getElem?_eq_none h] at hv
        cases hv
    rw [he.block hlt]
    exact hv
  have hlt := DataW.trod_lt _ _ _ _ hd
  have hcs : ∃ v, cs = #[v] ∧ v.cells = #[v] := by
    rcases open_slice Tryd.underlying51 hd with ⟨h3, _⟩ | ⟨_, _, _, _, _, _, _, h3, _⟩
    · exact ⟨_, by rw [← Array.toList_inj]; exact h3, rfl⟩
    · exact ⟨_, by rw [← Array.toList_inj]; exact h3, rfl⟩
  obtain ⟨v, rfl, hv1⟩ := hcs
  have h1 : DataW.Trod enc Tryd.prog w 0 (fun _ => true) true 51 v d p := ⟨fuel, by rw [hv1]; exact hd⟩
  obtain ⟨fuel', h2⟩ := Below.trod laidOut_ (by kernel_rfl) (of_decide_eq_true (by kernel_rfl)) h1 he.out hlt
  rw [hv1] at h2
  exact trodVars_mk1 hg ht hb h2
end Go.Proofs.YtpmipopeoiojjaaDoor
