/- Rows of records of 4 ints: words, readers, and contracts of the laws' own helpers on them. Conditions: lengths that a machine can hold. -/
import Derived.Test.YtpmipopeoiojjaaDoorR
import Derived.Test.YtpmipopeoiojjaaDoorF
import Derived.Test.YtpmipopeoiojjaaDoorH
import Derived.Test.YtpmipopeoiojjaaDoorU
import Derived.Lib.SmallJoins
namespace Go.Proofs.YtpmipopeoiojjaaDoor
open Go Go.RowKit Go.WideShapes Go.Deep
set_option linter.unusedVariables false
set_option linter.unusedSimpArgs false

structure In4 where
  o : Int
  d : Int
  a : Int
  k : Int
def In4.cells (x : In4) : List Value := [.int .i64 x.o, .int .i64 x.d, .int .i64 x.a, .int .i64 x.k]
def In4.val (x : In4) : Value := .agg #[.int .i64 x.o, .int .i64 x.d, .int .i64 x.a, .int .i64 x.k]
theorem In4.len (x : In4) : x.cells.length = 4 := rfl
def AIn4 (w : World) (A : Option Addr) (l : List In4) : Prop := AR w A (l.flatMap In4.cells)
theorem AIn4.ext {w w' : World} {A : Option Addr} {l : List In4} (h : AIn4 w A l) (he : Ext w w') : AIn4 w' A l := AR.ext h he
theorem AIn4.at_ {w : World} {A : Option Addr} {l : List In4} (h : AIn4 w A l) {i : Nat} (hi : i < l.length) : ∃ b o x, A = some ⟨b, o, none⟩ ∧ b < w.heap.size ∧ l[i]? = some x ∧ w.cell? ⟨b, o + i * 4, none⟩ = some (.int .i64 x.o) ∧ w.cell? ⟨b, o + i * 4 + 1, none⟩ = some (.int .i64 x.d) ∧ w.cell? ⟨b, o + i * 4 + 2, none⟩ = some (.int .i64 x.a) ∧ w.cell? ⟨b, o + i * 4 + 3, none⟩ = some (.int .i64 x.k) := by
  have hx : l[i]? = some l[i] := List.getElem?_eq_getElem hi
  have hj : ∀ j u, j < 4 → l[i].cells[j]? = some u → (l.flatMap In4.cells)[i * 4 + j]? = some u := fun j u hj hu => by rw [flat_at In4.len _ _ _ hj, hx]; exact hu
  obtain ⟨b, o, h1, h2⟩ := h (by intro e; have := hj 0 _ (by omega) rfl; rw [e] at this; cases this)
  have hc := h2 _ _ (hj 0 _ (by omega) rfl)
  exact ⟨b, o, l[i], h1, World.block_lt_of_cell? w _ hc, hx, by have := h2 _ _ (hj 0 _ (by omega) rfl); simpa [Nat.add_assoc] using this, by have := h2 _ _ (hj 1 _ (by omega) rfl); simpa [Nat.add_assoc] using this, by have := h2 _ _ (hj 2 _ (by omega) rfl); simpa [Nat.add_assoc] using this, by have := h2 _ _ (hj 3 _ (by omega) rfl); simpa [Nat.add_assoc] using this⟩
def RIn4 (T : TypeId) (w : World) (A : Option Addr) (l : List In4) : Prop := Row T w A (l.flatMap In4.cells)
theorem RIn4.ext {T : TypeId} {w w' : World} {A : Option Addr} {l : List In4} (h : RIn4 T w A l) (he : Ext w w') : RIn4 T w' A l := Row.ext h he
theorem RIn4.at_ {T : TypeId} {w : World} {A : Option Addr} {l : List In4} (h : RIn4 T w A l) {i : Nat} (hi : i < l.length) : ∃ b o x, A = some ⟨b, o, none⟩ ∧ b < w.heap.size ∧ l[i]? = some x ∧ w.cell? ⟨b, o + i * 4, none⟩ = some (.int .i64 x.o) ∧ w.cell? ⟨b, o + i * 4 + 1, none⟩ = some (.int .i64 x.d) ∧ w.cell? ⟨b, o + i * 4 + 2, none⟩ = some (.int .i64 x.a) ∧ w.cell? ⟨b, o + i * 4 + 3, none⟩ = some (.int .i64 x.k) := by
  have hx : l[i]? = some l[i] := List.getElem?_eq_getElem hi
  have hj : ∀ j u, j < 4 → l[i].cells[j]? = some u → (l.flatMap In4.cells)[i * 4 + j]? = some u := fun j u hj hu => by rw [flat_at In4.len _ _ _ hj, hx]; exact hu
  obtain ⟨b, o, c, fr, h1, h2, h3⟩ := h (by intro e; have := hj 0 _ (by omega) rfl; rw [e] at this; cases this)
  have hat : ∀ j u, j < 4 → l[i].cells[j]? = some u → w.cell? ⟨b, o + i * 4 + j, none⟩ = some u := fun j u hjs hu => by
    rw [cell_of_row w b _ c T fr h2, Nat.add_assoc, h3 _ (by rw [flat_length In4.len]; have := Nat.mul_le_mul_right 4 (show i + 1 ≤ l.length from hi); omega)]
    exact hj j u hjs hu
  exact ⟨b, o, l[i], h1, lt_of_heap h2, hx, by have := hat 0 _ (by omega) rfl; simpa using this, by have := hat 1 _ (by omega) rfl; simpa using this, by have := hat 2 _ (by omega) rfl; simpa using this, by have := hat 3 _ (by omega) rfl; simpa using this⟩
def OIn4 (T : TypeId) (w : World) (lo : Nat) (A : Option Addr) (k : Nat) (l : List In4) : Prop := w.ownsRow lo T 4 (.slice A l.length k) l.length (l.flatMap In4.cells)
theorem OIn4.rm {T : TypeId} {w : World} {lo k : Nat} {A : Option Addr} {l : List In4} (h : OIn4 T w lo A k l) : RIn4 T w A l := Row.of_own h
theorem OIn4.ext {T : TypeId} {w w' : World} {lo k : Nat} {A : Option Addr} {l : List In4} (h : OIn4 T w lo A k l) (he : Ext w w') : OIn4 T w' lo A k l := own_ext h he
theorem OIn4.base {T : TypeId} {w : World} {lo lo' k : Nat} {A : Option Addr} {l : List In4} (h : OIn4 T w lo A k l) (hl : lo' ≤ lo) : OIn4 T w lo' A k l := own_base h hl

theorem own_of_cells {w : World} {g T lo s n : Nat} {f : Nat → Value} {cs : List Value} (h : w.rowIs g T (n * s) f) (hl : cs.length = n * s) (hf : ∀ t u, t < n * s → cs[t]? = some u → f t = u) (hlo : lo ≤ g) (hm : n ≤ maxLen) :
    w.ownsRow lo T s (.slice (some ⟨g, 0, none⟩) n n) n cs := by
  obtain ⟨c, hg, hc, hcf⟩ := h
  refine ⟨hl, .inr ⟨g, n, c, rfl, hlo, hg, Nat.le_refl _, hm, hc, ?_⟩⟩
  apply List.ext_getElem?
  intro i
  rw [List.getElem?_take]
  by_cases hi : i < n * s
  · rw [if_pos hi, Array.getElem?_toList, hcf i hi, List.getElem?_eq_getElem (by omega)]
    rw [hf i _ hi (List.getElem?_eq_getElem (by omega))]
  · rw [if_neg hi, List.getElem?_eq_none (by omega)]

theorem head_snoc4 {f : Nat → Value} {cs : List Value} {j : Nat} {v0 v1 v2 v3 : Value} (h : ∀ t u, t < j * 4 → cs[t]? = some u → f t = u) (h0 : cs[j * 4]? = some v0) (h1 : cs[j * 4 + 1]? = some v1) (h2 : cs[j * 4 + 2]? = some v2) (h3 : cs[j * 4 + 3]? = some v3) :
    ∀ t u, t < (j + 1) * 4 → cs[t]? = some u → (if t = j * 4 + 3 then v3 else if t = j * 4 + 2 then v2 else if t = j * 4 + 1 then v1 else if t = j * 4 then v0 else f t) = u := fun t u ht hu => by
  rcases Nat.lt_or_ge t (j * 4) with hlo | hge
  · rw [if_neg (by omega)]
    rw [if_neg (by omega)]
    rw [if_neg (by omega)]
    rw [if_neg (by omega)]
    exact h t u hlo hu
  · have ht' : t = j * 4 ∨ t = j * 4 + 1 ∨ t = j * 4 + 2 ∨ t = j * 4 + 3 := by omega
    rcases ht' with rfl | rfl | rfl | rfl
    · rw [if_neg (by omega)]
      rw [if_neg (by omega)]
      rw [if_neg (by omega)]
      rw [if_pos rfl]
      rw [h0] at hu
      injection hu
    · rw [if_neg (by omega)]
      rw [if_neg (by omega)]
      rw [if_pos rfl]
      rw [h1] at hu
      injection hu
    · rw [if_neg (by omega)]
      rw [if_pos rfl]
      rw [h2] at hu
      injection hu
    · rw [if_pos rfl]
      rw [h3] at hu
      injection hu

theorem toIn4 (x : In4) (w : World) : Calls Tryd.prog 19 #[.agg #[.int .i64 x.o, .int .i64 x.d, .int .i64 x.a, .int .i64 x.k]] w fun e w' => e = .returned (.agg #[.int .i64 x.o, .int .i64 x.d, .int .i64 x.a, .int .i64 x.k]) ∧ Ext w w' := by
  go_enter Tryd.func19, Tryd.ntmps19
  go_wp2
  refine bodyPost_ret (v := .agg #[.int .i64 x.o, .int .i64 x.d, .int .i64 x.a, .int .i64 x.k]) (by simp [results, Tryd.results19, go_sem]) rfl ⟨rfl, (by repeat (first | with_reducible assumption | with_reducible exact Ext.refl _ | with_reducible apply Ext.drewN | with_reducible apply Ext.drew | with_reducible apply Ext.alloc | with_reducible refine Ext.set ?_ (by first | (simp; done) | (simp; omega)) _ | with_reducible refine Ext.next ?_ (by with_reducible assumption)))⟩

theorem eqIn4 (x : In4) (w : World) : Calls Tryd.prog 21 #[.agg #[.int .i64 x.o, .int .i64 x.d, .int .i64 x.a, .int .i64 x.k], .agg #[.int .i64 x.o, .int .i64 x.d, .int .i64 x.a, .int .i64 x.k]] w fun e w' => e = .returned (.bool true) ∧ Ext w w' := by
  go_enter Tryd.func21, Tryd.ntmps21
  go_wp2
  go_ret
  exact ⟨rfl, (by repeat (first | with_reducible assumption | with_reducible exact Ext.refl _ | with_reducible apply Ext.drewN | with_reducible apply Ext.drew | with_reducible apply Ext.alloc | with_reducible refine Ext.set ?_ (by first | (simp; done) | (simp; omega)) _ | with_reducible refine Ext.next ?_ (by with_reducible assumption)))⟩

theorem szIn4S (A : Option Addr) (k n : Nat) (left : Int) (w : World) (hn : n ≤ 9223372036854775807) (h0 : 0 ≤ left) (h1 : left ≤ 1048576) :
    Calls Tryd.prog 5 #[.slice A n k, .int .i64 left] w fun e w' => e = .returned (.int .i64 (szF left n)) ∧ Ext w w' := by
  by_cases h : left < n
  · go_enter Tryd.func5, Tryd.ntmps5
    go_wp2
    go_ret
    exact ⟨ret_int (szF_lt h).symm, (by repeat (first | with_reducible assumption | with_reducible exact Ext.refl _ | with_reducible apply Ext.drewN | with_reducible apply Ext.drew | with_reducible apply Ext.alloc))⟩
  · have h' : (n : Int) ≤ left := by omega
    clear h
    go_enter Tryd.func5, Tryd.ntmps5
    go_wp2
    go_ret
    exact ⟨ret_int (szF_ge h').symm, (by repeat (first | with_reducible assumption | with_reducible exact Ext.refl _ | with_reducible apply Ext.drewN | with_reducible apply Ext.drew | with_reducible apply Ext.alloc))⟩

theorem info_In4 : (Tryd.prog.info? 38).map (fun i => (i.zero, i.size, i.bytes)) = some (some (.agg #[.int .i64 0, .int .i64 0, .int .i64 0, .int .i64 0]), 4, 32) := by kernel_rfl

def RetIn4 (T : TypeId) (w : World) (l : List In4) (e : Ending) (w' : World) : Prop := ∃ A k, e = .returned (.slice A l.length k) ∧ OIn4 T w' w.heap.size A k l ∧ Ext w w'
set_option maxHeartbeats 800000 in
theorem toIn4S (A : Option Addr) (k : Nat) (l : List In4) (w : World) (h : AIn4 w A l) (hn : l.length ≤ 1048576) :
    Calls Tryd.prog 7 #[.slice A l.length k] w (RetIn4 38 w l) := by
  have hmk := run_make_rowN (P := Tryd.prog) 26 38 (.agg #[.int .i64 0, .int .i64 0, .int .i64 0, .int .i64 0]) 4 32 Tryd.underlying26 info_In4 .i64 .i64 l.length (by omega) (by omega)
  go_enter Tryd.func7, Tryd.ntmps7
  go_wp2
  go_loopw [4] (fun i wr => ∃ (j : Nat) (f : Nat → Value), j ≤ l.length ∧ i = .int .i64 j ∧ wr.rowIs w.heap.size 38 (l.length * 4) f ∧ (∀ t u, t < j * 4 → (l.flatMap In4.cells)[t]? = some u → f t = u) ∧ Ext w wr) (fun i _ => l.length - (intOf i).toNat)
  case atStart => exact ⟨0, _, Nat.zero_le _, rfl, row_made w _ (l.length * 4) 38, fun t u ht => absurd ht (by omega), (by repeat (first | with_reducible assumption | with_reducible exact Ext.refl _ | with_reducible apply Ext.drewN | with_reducible apply Ext.drew | with_reducible apply Ext.alloc | with_reducible refine Ext.set ?_ (by first | (simp; done) | (simp; omega)) _ | with_reducible refine Ext.next ?_ (by with_reducible assumption)))⟩
  case round =>
    obtain ⟨j, f, hj, rfl, hrow, hhead, hext⟩ := hrel
    by_cases hlt : j < l.length
    · obtain ⟨b, o, x, rfl, hb, hx, hc0, hc1, hc2, hc3⟩ := (h.ext hext).at_ hlt
      have HX := hid hx
      have HR := hid hrow
      have HH := hid hhead
      clear hx h hhead hrow
      go_wp2_with fail
      refine (toIn4 x _).mono ?_
      rintro e w1 ⟨rfl, hw1⟩
      have hr1 := row_ext HR.out hw1
      have d0 := hr1.cell (i := j * 4) (by have := Nat.mul_le_mul_right 4 (show j + 1 ≤ l.length from hlt); omega)
      have f0 := hr1.frozen (j * 4)
      have d1 := hr1.cell (i := j * 4 + 1) (by have := Nat.mul_le_mul_right 4 (show j + 1 ≤ l.length from hlt); omega)
      have f1 := hr1.frozen (j * 4 + 1)
      have d2 := hr1.cell (i := j * 4 + 2) (by have := Nat.mul_le_mul_right 4 (show j + 1 ≤ l.length from hlt); omega)
      have f2 := hr1.frozen (j * 4 + 2)
      have d3 := hr1.cell (i := j * 4 + 3) (by have := Nat.mul_le_mul_right 4 (show j + 1 ≤ l.length from hlt); omega)
      have f3 := hr1.frozen (j * 4 + 3)
      have HR1 := hid hr1
      clear hr1 hc0 hc1 hc2 hc3
      go_wp2
      go_roundw
      case rel =>
        refine ⟨j + 1, _, by omega, by go_num, ((((HR1.out.set (j * 4) (.int .i64 x.o)).set (j * 4 + 1) (.int .i64 x.d)).set (j * 4 + 2) (.int .i64 x.a)).set (j * 4 + 3) (.int .i64 x.k)), head_snoc4 (fun t u ht hu => HH.out t u ht hu) (by rw [show j * 4 = j * 4 + 0 from rfl, flat_at In4.len _ _ _ (by omega), HX.out]; rfl) (by rw [flat_at In4.len _ _ _ (by omega), HX.out]; rfl) (by rw [flat_at In4.len _ _ _ (by omega), HX.out]; rfl) (by rw [flat_at In4.len _ _ _ (by omega), HX.out]; rfl), (by repeat (first | with_reducible assumption | with_reducible exact Ext.refl _ | with_reducible apply Ext.drewN | with_reducible apply Ext.drew | with_reducible apply Ext.alloc | with_reducible refine Ext.set ?_ (by first | (simp; done) | (simp; omega)) _ | with_reducible refine Ext.next ?_ (by with_reducible assumption)))⟩
      case measure => simp [intOf]; omega
    · obtain rfl : j = l.length := by omega
      have HR := hid hrow
      have HH := hid hhead
      clear hrow hhead
      go_wp2
      go_ret
      exact ⟨_, _, rfl, own_of_cells HR.out (flat_length In4.len l) HH.out (Nat.le_refl _) (by unfold maxLen; omega), hext⟩

set_option maxHeartbeats 800000 in
theorem eqIn4S (A A' : Option Addr) (k k' n : Nat) (l : List In4) (w : World) (h : RIn4 38 w A l) (h' : RIn4 38 w A' l) (hl : l.length = n) (hn : n < 4611686018427387904) :
    Calls Tryd.prog 10 #[.slice A n k, .slice A' n k'] w fun e w' => e = .returned (.bool true) ∧ Ext w w' := by
  subst hl
  go_enter Tryd.func10, Tryd.ntmps10
  go_wp2
  go_loopw [5] (fun i wr => ∃ j : Nat, j ≤ l.length ∧ i = .int .i64 j ∧ Ext w wr) (fun i _ => l.length - (intOf i).toNat)
  case atStart => exact ⟨0, Nat.zero_le _, rfl, Ext.refl _⟩
  case round =>
    obtain ⟨j, hj, rfl, hext⟩ := hrel
    by_cases hlt : j < l.length
    · obtain ⟨b, o, x, rfl, hb, hx, hc0, hc1, hc2, hc3⟩ := (h.ext hext).at_ hlt
      obtain ⟨b', o', y, rfl, hb', hy, hd0, hd1, hd2, hd3⟩ := (h'.ext hext).at_ hlt
      rw [hx] at hy
      injection hy with hy
      subst hy
      clear hx h h'
      go_wp2
      refine wp_region_over (by kernel_rfl) (by kernel_rfl) ?_
      repeat (go_big_quiet_step ((go_at_call 21; exact calls_over (eqIn4 x _))))
      refine wpQuiet_nil ?_
      rintro _ ⟨⟨wq, hwq⟩, rfl⟩
      go_wp2
      go_roundw
      case rel => exact ⟨j + 1, by omega, by go_num, (by repeat (first | with_reducible assumption | with_reducible exact Ext.refl _ | with_reducible apply Ext.drewN | with_reducible apply Ext.drew | with_reducible apply Ext.alloc | with_reducible refine Ext.set ?_ (by first | (simp; done) | (simp; omega)) _ | with_reducible refine Ext.next ?_ (by with_reducible assumption)))⟩
      case measure => simp [intOf]; omega
    · go_wp2
      go_ret
      exact ⟨rfl, hext⟩

/-- The marks of n records from k on. -/
def markIn4 (k : Int) (n : Nat) : List In4 := (List.range n).map fun i : Nat => ⟨k + (4 * i : Nat), k + (4 * i : Nat) + 1, k + (4 * i : Nat) + 2, k + (4 * i : Nat) + 3⟩
theorem markIn4_length (k : Int) (n : Nat) : (markIn4 k n).length = n := by simp [markIn4]
theorem markIn4_at {k : Int} {n i : Nat} (h : i < n) : (markIn4 k n)[i]? = some ⟨k + (4 * i : Nat), k + (4 * i : Nat) + 1, k + (4 * i : Nat) + 2, k + (4 * i : Nat) + 3⟩ := by simp [markIn4, h]

theorem OIn4.cell {T : TypeId} {w : World} {lo k g : Nat} {l : List In4} (h : OIn4 T w lo (some ⟨g, 0, none⟩) k l) {i j : Nat} (hi : i < l.length) (hj : j < 4) : ∃ u, w.cell? ⟨g, i * 4 + j, none⟩ = some (.int .i64 u) := by
  have hm := Nat.mul_le_mul_right 4 (show i + 1 ≤ l.length from hi)
  rw [World.ownsRow.cellAt h (i * 4 + j) (by omega), flat_at In4.len _ _ _ hj, List.getElem?_eq_getElem hi]
  match j, hj with
  | 0, _ => exact ⟨_, rfl⟩
  | 1, _ => exact ⟨_, rfl⟩
  | 2, _ => exact ⟨_, rfl⟩
  | 3, _ => exact ⟨_, rfl⟩
theorem OIn4.form {T : TypeId} {w : World} {lo k : Nat} {A : Option Addr} {l : List In4} (h : OIn4 T w lo A k l) {i : Nat} (hi : i < l.length) : ∃ g, A = some ⟨g, 0, none⟩ ∧ g < w.heap.size ∧ ∀ t, w.frozen? ⟨g, t, none⟩ = false := by
  rcases h.2 with ⟨_, h0⟩ | ⟨g, cap, _, hv, _⟩
  · omega
  · injection hv with hA _ hc
    subst hA hc
    exact ⟨g, rfl, (own_atB h ⟨0, none, rfl⟩).2, fun t => World.ownsRow.frozenAt h t⟩
theorem flat_put4 : ∀ {l : List In4} {i : Nat} {x y : In4}, l[i]? = some x → (l.set i y).flatMap In4.cells = (((((l.flatMap In4.cells).set (i * 4) (.int .i64 y.o)).set (i * 4 + 1) (.int .i64 y.d)).set (i * 4 + 2) (.int .i64 y.a)).set (i * 4 + 3) (.int .i64 y.k))
  | [], i, x, y, h => by simp at h
  | a :: l, 0, x, y, h => by
    simp at h
    subst h
    simp [In4.cells, List.flatMap_cons]
  | a :: l, i + 1, x, y, h => by
    have := flat_put4 (l := l) (i := i) (x := x) (y := y) (by simpa using h)
    rw [List.set_cons_succ, List.flatMap_cons, List.flatMap_cons, this]
    simp only [show (i + 1) * 4 = i * 4 + 4 from by omega, In4.cells]
    simp [Nat.add_assoc, Nat.add_comm 4, List.set_cons_succ]
theorem OIn4.put {T : TypeId} {w : World} {lo k g : Nat} {l : List In4} (h : OIn4 T w lo (some ⟨g, 0, none⟩) k l) {i : Nat} {x : In4} (hx : l[i]? = some x) (y : In4) :
    OIn4 T ((((w.setCell ⟨g, i * 4, none⟩ (.int .i64 y.o)).setCell ⟨g, i * 4 + 1, none⟩ (.int .i64 y.d)).setCell ⟨g, i * 4 + 2, none⟩ (.int .i64 y.a)).setCell ⟨g, i * 4 + 3, none⟩ (.int .i64 y.k)) lo (some ⟨g, 0, none⟩) k (l.set i y) := by
  unfold OIn4
  rw [List.length_set, flat_put4 hx]
  exact (World.ownsRow.stored (World.ownsRow.stored (World.ownsRow.stored (World.ownsRow.stored h _ _).1 _ _).1 _ _).1 _ _).1

theorem heldIn4S (A : Option Addr) (kc n : Nat) (k : Int) (w : World) (h : RIn4 38 w A (markIn4 k n)) (h0 : 0 ≤ k) (h1 : k + (4 * n : Nat) < 4611686018427387904) :
    Calls Tryd.prog 17 #[.slice A n kc, .int .i64 k] w fun e w' => e = .returned (.int .i64 (k + (4 * n : Nat))) ∧ w = w' := by
  go_enter Tryd.func17, Tryd.ntmps17
  go_wp2
  go_loop [1, 5] (fun v i => ∃ j : Nat, j ≤ n ∧ i = .int .i64 j ∧ v = .int .i64 (k + (4 * j : Nat))) (fun _ i => n - (intOf i).toNat)
  case atStart => exact ⟨0, Nat.zero_le _, rfl, by simp⟩
  case round =>
    obtain ⟨j, hj, rfl, rfl⟩ := hrel
    by_cases hlt : j < n
    · obtain ⟨b, o, x, rfl, hb, hx, hc0, hc1, hc2, hc3⟩ := h.at_ (i := j) (by rw [markIn4_length]; exact hlt)
      rw [markIn4_at hlt] at hx
      injection hx with hx
      subst hx
      simp only at hc0 hc1 hc2 hc3
      clear h
      go_wp2
      go_round
      case rel => exact ⟨j + 1, by omega, by go_num, by go_num⟩
      case measure => simp [intOf]; omega
    · obtain rfl : j = n := by omega
      go_wp2
      go_ret
      exact ⟨rfl, rfl⟩

set_option maxHeartbeats 1600000 in
theorem markIn4S (A : Option Addr) (kc lo : Nat) (l : List In4) (k : Int) (w : World) (h : OIn4 38 w lo A kc l) (h0 : 0 ≤ k) (h1 : k + (4 * l.length : Nat) < 4611686018427387904) :
    Calls Tryd.prog 11 #[.slice A l.length kc, .int .i64 k] w fun e w' => e = .returned (.int .i64 (k + (4 * l.length : Nat))) ∧ OIn4 38 w' lo A kc (markIn4 k l.length) ∧ Upd (atB A) w w' := by
  go_enter Tryd.func11, Tryd.ntmps11
  go_wp2
  go_loopw [1, 5] (fun v i wr => ∃ (j : Nat) (ys : List In4), j ≤ l.length ∧ i = .int .i64 j ∧ v = .int .i64 (k + (4 * j : Nat)) ∧ ys.length = l.length ∧ OIn4 38 wr lo A kc ys ∧ (∀ t, t < j → ys[t]? = (markIn4 k l.length)[t]?) ∧ Upd (atB A) w wr) (fun _ i _ => l.length - (intOf i).toNat)
  case atStart => exact ⟨0, l, Nat.zero_le _, rfl, by simp, rfl, h, fun t ht => absurd ht (by omega), Upd.refl _ _⟩
  case round =>
    obtain ⟨j, ys, hj, rfl, rfl, hl, ho, hall, hup⟩ := hrel
    by_cases hlt : j < l.length
    · obtain ⟨g, rfl, hg, hfr⟩ := ho.form (i := j) (by omega)
      obtain ⟨u0, c0⟩ := ho.cell (i := j) (j := 0) (by omega) (by omega)
      rw [Nat.add_zero] at c0
      have f0 := hfr (j * 4)
      obtain ⟨u1, c1⟩ := ho.cell (i := j) (j := 1) (by omega) (by omega)
      have f1 := hfr (j * 4 + 1)
      obtain ⟨u2, c2⟩ := ho.cell (i := j) (j := 2) (by omega) (by omega)
      have f2 := hfr (j * 4 + 2)
      obtain ⟨u3, c3⟩ := ho.cell (i := j) (j := 3) (by omega) (by omega)
      have f3 := hfr (j * 4 + 3)
      have hy : ys[j]? = some ys[j] := List.getElem?_eq_getElem (by omega)
      have HO : Hid (∀ v0 v1 v2 v3 : Int, OIn4 38 ((((wr.setCell ⟨g, j * 4, none⟩ (.int .i64 v0)).setCell ⟨g, j * 4 + 1, none⟩ (.int .i64 v1)).setCell ⟨g, j * 4 + 2, none⟩ (.int .i64 v2)).setCell ⟨g, j * 4 + 3, none⟩ (.int .i64 v3)) lo (some ⟨g, 0, none⟩) kc (ys.set j ⟨v0, v1, v2, v3⟩)) := hid (fun v0 v1 v2 v3 => ho.put hy ⟨v0, v1, v2, v3⟩)
      have HU : Hid (∀ v0 v1 v2 v3 : Int, Upd (atB (some ⟨g, 0, none⟩)) w ((((wr.setCell ⟨g, j * 4, none⟩ (.int .i64 v0)).setCell ⟨g, j * 4 + 1, none⟩ (.int .i64 v1)).setCell ⟨g, j * 4 + 2, none⟩ (.int .i64 v2)).setCell ⟨g, j * 4 + 3, none⟩ (.int .i64 v3))) := hid (fun v0 v1 v2 v3 => ((((hup.set (p := ⟨g, j * 4, none⟩) (.inl ⟨0, none, rfl⟩) (.int .i64 v0)).set (p := ⟨g, j * 4 + 1, none⟩) (.inl ⟨0, none, rfl⟩) (.int .i64 v1)).set (p := ⟨g, j * 4 + 2, none⟩) (.inl ⟨0, none, rfl⟩) (.int .i64 v2)).set (p := ⟨g, j * 4 + 3, none⟩) (.inl ⟨0, none, rfl⟩) (.int .i64 v3)))
      have HA := hid hall
      have HL := hid hl
      clear ho hup hall h hl hfr hy
      go_wp2
      go_roundw
      case rel =>
        refine ⟨j + 1, _, by omega, by go_num, by go_num, by rw [List.length_set]; exact HL.out, HO.out _ _ _ _, fun t ht => ?_, HU.out _ _ _ _⟩
        rw [List.getElem?_set]
        split
        · next e =>
          subst e
          rw [if_pos (by have := HL.out; omega), markIn4_at (by omega)]
          simp only [Option.some.injEq, In4.mk.injEq]
          omega
        · exact HA.out t (by omega)
      case measure => simp [intOf]; omega
    · obtain rfl : j = l.length := by omega
      have e : ys = markIn4 k l.length := by
        apply List.ext_getElem?
        intro t
        rcases Nat.lt_or_ge t l.length with ht | ht
        · exact hall t ht
        · rw [List.getElem?_eq_none (by omega), List.getElem?_eq_none (by rw [markIn4_length]; exact ht)]
      subst e
      have HO := hid ho
      have HU := hid hup
      clear ho hup h hall
      go_wp2
      go_ret
      exact ⟨rfl, HO.out, HU.out⟩

end Go.Proofs.YtpmipopeoiojjaaDoor
