/- Rows of records of 5 ints: words, readers, and contracts of the laws' own helpers on them. Conditions: lengths that a machine can hold. -/
import Derived.Test.YtcjeeggffeoilaaR
import Derived.Test.YtcjeeggffeoilaaF
import Derived.Test.YtcjeeggffeoilaaH
import Derived.Test.YtcjeeggffeoilaaU
import Derived.Lib.SmallJoins
namespace Go.Proofs.Ytcjeeggffeoilaa
open Go Go.RowKit Go.WideShapes Go.Deep
set_option linter.unusedVariables false
set_option linter.unusedSimpArgs false

structure Op5 where
  kind : Int
  x : Int
  y : Int
  k : Int
  at_ : Int
def Op5.cells (x : Op5) : List Value := [.int .i64 x.kind, .int .i64 x.x, .int .i64 x.y, .int .i64 x.k, .int .i64 x.at_]
def Op5.val (x : Op5) : Value := .agg #[.int .i64 x.kind, .int .i64 x.x, .int .i64 x.y, .int .i64 x.k, .int .i64 x.at_]
theorem Op5.len (x : Op5) : x.cells.length = 5 := rfl
def AOp5 (w : World) (A : Option Addr) (l : List Op5) : Prop := AR w A (l.flatMap Op5.cells)
theorem AOp5.ext {w w' : World} {A : Option Addr} {l : List Op5} (h : AOp5 w A l) (he : Ext w w') : AOp5 w' A l := AR.ext h he
theorem AOp5.at_ {w : World} {A : Option Addr} {l : List Op5} (h : AOp5 w A l) {i : Nat} (hi : i < l.length) : ∃ b o x, A = some ⟨b, o, none⟩ ∧ b < w.heap.size ∧ l[i]? = some x ∧ w.cell? ⟨b, o + i * 5, none⟩ = some (.int .i64 x.kind) ∧ w.cell? ⟨b, o + i * 5 + 1, none⟩ = some (.int .i64 x.x) ∧ w.cell? ⟨b, o + i * 5 + 2, none⟩ = some (.int .i64 x.y) ∧ w.cell? ⟨b, o + i * 5 + 3, none⟩ = some (.int .i64 x.k) ∧ w.cell? ⟨b, o + i * 5 + 4, none⟩ = some (.int .i64 x.at_) := by
  have hx : l[i]? = some l[i] := List.getElem?_eq_getElem hi
  have hj : ∀ j u, j < 5 → l[i].cells[j]? = some u → (l.flatMap Op5.cells)[i * 5 + j]? = some u := fun j u hj hu => by rw [flat_at Op5.len _ _ _ hj, hx]; exact hu
  obtain ⟨b, o, h1, h2⟩ := h (by intro e; have := hj 0 _ (by omega) rfl; rw [e] at this; cases this)
  have hc := h2 _ _ (hj 0 _ (by omega) rfl)
  exact ⟨b, o, l[i], h1, World.block_lt_of_cell? w _ hc, hx, by have := h2 _ _ (hj 0 _ (by omega) rfl); simpa [Nat.add_assoc] using this, by have := h2 _ _ (hj 1 _ (by omega) rfl); simpa [Nat.add_assoc] using this, by have := h2 _ _ (hj 2 _ (by omega) rfl); simpa [Nat.add_assoc] using this, by have := h2 _ _ (hj 3 _ (by omega) rfl); simpa [Nat.add_assoc] using this, by have := h2 _ _ (hj 4 _ (by omega) rfl); simpa [Nat.add_assoc] using this⟩
def ROp5 (T : TypeId) (w : World) (A : Option Addr) (l : List Op5) : Prop := Row T w A (l.flatMap Op5.cells)
theorem ROp5.ext {T : TypeId} {w w' : World} {A : Option Addr} {l : List Op5} (h : ROp5 T w A l) (he : Ext w w') : ROp5 T w' A l := Row.ext h he
theorem ROp5.at_ {T : TypeId} {w : World} {A : Option Addr} {l : List Op5} (h : ROp5 T w A l) {i : Nat} (hi : i < l.length) : ∃ b o x, A = some ⟨b, o, none⟩ ∧ b < w.heap.size ∧ l[i]? = some x ∧ w.cell? ⟨b, o + i * 5, none⟩ = some (.int .i64 x.kind) ∧ w.cell? ⟨b, o + i * 5 + 1, none⟩ = some (.int .i64 x.x) ∧ w.cell? ⟨b, o + i * 5 + 2, none⟩ = some (.int .i64 x.y) ∧ w.cell? ⟨b, o + i * 5 + 3, none⟩ = some (.int .i64 x.k) ∧ w.cell? ⟨b, o + i * 5 + 4, none⟩ = some (.int .i64 x.at_) := by
  have hx : l[i]? = some l[i] := List.getElem?_eq_getElem hi
  have hj : ∀ j u, j < 5 → l[i].cells[j]? = some u → (l.flatMap Op5.cells)[i * 5 + j]? = some u := fun j u hj hu => by rw [flat_at Op5.len _ _ _ hj, hx]; exact hu
  obtain ⟨b, o, c, fr, h1, h2, h3⟩ := h (by intro e; have := hj 0 _ (by omega) rfl; rw [e] at this; cases this)
  have hat : ∀ j u, j < 5 → l[i].cells[j]? = some u → w.cell? ⟨b, o + i * 5 + j, none⟩ = some u := fun j u hjs hu => by
    rw [cell_of_row w b _ c T fr h2, Nat.add_assoc, h3 _ (by rw [flat_length Op5.len]; have := Nat.mul_le_mul_right 5 (show i + 1 ≤ l.length from hi); omega)]
    exact hj j u hjs hu
  exact ⟨b, o, l[i], h1, lt_of_heap h2, hx, by have := hat 0 _ (by omega) rfl; simpa using this, by have := hat 1 _ (by omega) rfl; simpa using this, by have := hat 2 _ (by omega) rfl; simpa using this, by have := hat 3 _ (by omega) rfl; simpa using this, by have := hat 4 _ (by omega) rfl; simpa using this⟩
def OOp5 (T : TypeId) (w : World) (lo : Nat) (A : Option Addr) (k : Nat) (l : List Op5) : Prop := w.ownsRow lo T 5 (.slice A l.length k) l.length (l.flatMap Op5.cells)
theorem OOp5.rm {T : TypeId} {w : World} {lo k : Nat} {A : Option Addr} {l : List Op5} (h : OOp5 T w lo A k l) : ROp5 T w A l := Row.of_own h
theorem OOp5.ext {T : TypeId} {w w' : World} {lo k : Nat} {A : Option Addr} {l : List Op5} (h : OOp5 T w lo A k l) (he : Ext w w') : OOp5 T w' lo A k l := own_ext h he
theorem OOp5.base {T : TypeId} {w : World} {lo lo' k : Nat} {A : Option Addr} {l : List Op5} (h : OOp5 T w lo A k l) (hl : lo' ≤ lo) : OOp5 T w lo' A k l := own_base h hl

theorem own_of_cells {w : World} {g T lo s n : Nat} {f : Nat → Value} {cs : List Value} (h : w.rowIs g T (n * s) f) (hl : cs.length = n * s) (hf : ∀ t u, t < n * s → cs[t]? = some u → f t = u) (hlo : lo ≤ g) (hm : n ≤ maxLen) :
    w.ownsRow lo T s (.slice (some ⟨g, 0, none⟩) n n) n cs := by
  obtain ⟨c, hg, hc, hcf⟩ := h
  refine ⟨hl, .inr ⟨g, n, c, rfl, hlo, hg, Nat.le_refl _, hm, hc, ?_⟩⟩
  apply List.ext_getElem?
  intro i
  rw [List.getElem?_take]
  by_cases hi : i < n * s
  · rw [if_pos hi, Array.getElem?_toList, hcf i hi, List.getElem?_eq_getElem (by omega)]
    rw [hf i _ hi (List.getElem?_eq_getElem (by omega))]
  · rw [if_neg hi, List.getElem?_eq_none (by omega)]

theorem head_snoc5 {f : Nat → Value} {cs : List Value} {j : Nat} {v0 v1 v2 v3 v4 : Value} (h : ∀ t u, t < j * 5 → cs[t]? = some u → f t = u) (h0 : cs[j * 5]? = some v0) (h1 : cs[j * 5 + 1]? = some v1) (h2 : cs[j * 5 + 2]? = some v2) (h3 : cs[j * 5 + 3]? = some v3) (h4 : cs[j * 5 + 4]? = some v4) :
    ∀ t u, t < (j + 1) * 5 → cs[t]? = some u → (if t = j * 5 + 4 then v4 else if t = j * 5 + 3 then v3 else if t = j * 5 + 2 then v2 else if t = j * 5 + 1 then v1 else if t = j * 5 then v0 else f t) = u := fun t u ht hu => by
  rcases Nat.lt_or_ge t (j * 5) with hlo | hge
  · rw [if_neg (by omega)]
    rw [if_neg (by omega)]
    rw [if_neg (by omega)]
    rw [if_neg (by omega)]
    rw [if_neg (by omega)]
    exact h t u hlo hu
  · have ht' : t = j * 5 ∨ t = j * 5 + 1 ∨ t = j * 5 + 2 ∨ t = j * 5 + 3 ∨ t = j * 5 + 4 := by omega
    rcases ht' with rfl | rfl | rfl | rfl | rfl
    · rw [if_neg (by omega)]
      rw [if_neg (by omega)]
      rw [if_neg (by omega)]
      rw [if_neg (by omega)]
      rw [if_pos rfl]
      rw [h0] at hu
      injection hu
    · rw [if_neg (by omega)]
      rw [if_neg (by omega)]
      rw [if_neg (by omega)]
      rw [if_pos rfl]
      rw [h1] at hu
      injection hu
    · rw [if_neg (by omega)]
      rw [if_neg (by omega)]
      rw [if_pos rfl]
      rw [h2] at hu
      injection hu
    · rw [if_neg (by omega)]
      rw [if_pos rfl]
      rw [h3] at hu
      injection hu
    · rw [if_pos rfl]
      rw [h4] at hu
      injection hu

theorem toOp5 (x : Op5) (w : World) : Calls Try.prog 45 #[.agg #[.int .i64 x.kind, .int .i64 x.x, .int .i64 x.y, .int .i64 x.k, .int .i64 x.at_]] w fun e w' => e = .returned (.agg #[.int .i64 x.kind, .int .i64 x.x, .int .i64 x.y, .int .i64 x.k, .int .i64 x.at_]) ∧ Ext w w' := by
  go_enter Try.func45, Try.ntmps45
  go_wp2
  refine bodyPost_ret (v := .agg #[.int .i64 x.kind, .int .i64 x.x, .int .i64 x.y, .int .i64 x.k, .int .i64 x.at_]) (by simp [results, Try.results45, go_sem]) rfl ⟨rfl, (by repeat (first | with_reducible assumption | with_reducible exact Ext.refl _ | with_reducible apply Ext.drewN | with_reducible apply Ext.drew | with_reducible apply Ext.alloc | with_reducible refine Ext.set ?_ (by first | (simp; done) | (simp; omega)) _ | with_reducible refine Ext.next ?_ (by with_reducible assumption)))⟩

theorem eqOp5 (x : Op5) (w : World) : Calls Try.prog 51 #[.agg #[.int .i64 x.kind, .int .i64 x.x, .int .i64 x.y, .int .i64 x.k, .int .i64 x.at_], .agg #[.int .i64 x.kind, .int .i64 x.x, .int .i64 x.y, .int .i64 x.k, .int .i64 x.at_]] w fun e w' => e = .returned (.bool true) ∧ Ext w w' := by
  go_enter Try.func51, Try.ntmps51
  go_wp2
  go_ret
  exact ⟨rfl, (by repeat (first | with_reducible assumption | with_reducible exact Ext.refl _ | with_reducible apply Ext.drewN | with_reducible apply Ext.drew | with_reducible apply Ext.alloc | with_reducible refine Ext.set ?_ (by first | (simp; done) | (simp; omega)) _ | with_reducible refine Ext.next ?_ (by with_reducible assumption)))⟩

theorem szOp5S (A : Option Addr) (k n : Nat) (left : Int) (w : World) (hn : n ≤ 9223372036854775807) (h0 : 0 ≤ left) (h1 : left ≤ 1048576) :
    Calls Try.prog 34 #[.slice A n k, .int .i64 left] w fun e w' => e = .returned (.int .i64 (szF left n)) ∧ Ext w w' := by
  by_cases h : left < n
  · go_enter Try.func34, Try.ntmps34
    go_wp2
    go_ret
    exact ⟨ret_int (szF_lt h).symm, (by repeat (first | with_reducible assumption | with_reducible exact Ext.refl _ | with_reducible apply Ext.drewN | with_reducible apply Ext.drew | with_reducible apply Ext.alloc))⟩
  · have h' : (n : Int) ≤ left := by omega
    clear h
    go_enter Try.func34, Try.ntmps34
    go_wp2
    go_ret
    exact ⟨ret_int (szF_ge h').symm, (by repeat (first | with_reducible assumption | with_reducible exact Ext.refl _ | with_reducible apply Ext.drewN | with_reducible apply Ext.drew | with_reducible apply Ext.alloc))⟩

theorem info_Op5 : (Try.prog.info? 63).map (fun i => (i.zero, i.size, i.bytes)) = some (some (.agg #[.int .i64 0, .int .i64 0, .int .i64 0, .int .i64 0, .int .i64 0]), 5, 40) := by kernel_rfl

def RetOp5 (T : TypeId) (w : World) (l : List Op5) (e : Ending) (w' : World) : Prop := ∃ A k, e = .returned (.slice A l.length k) ∧ OOp5 T w' w.heap.size A k l ∧ Ext w w'
set_option maxHeartbeats 800000 in
theorem toOp5S (A : Option Addr) (k : Nat) (l : List Op5) (w : World) (h : AOp5 w A l) (hn : l.length ≤ 1048576) :
    Calls Try.prog 38 #[.slice A l.length k] w (RetOp5 63 w l) := by
  have hmk := run_make_rowN (P := Try.prog) 42 63 (.agg #[.int .i64 0, .int .i64 0, .int .i64 0, .int .i64 0, .int .i64 0]) 5 40 Try.underlying42 info_Op5 .i64 .i64 l.length (by omega) (by omega)
  go_enter Try.func38, Try.ntmps38
  go_wp2
  go_loopw [4] (fun i wr => ∃ (j : Nat) (f : Nat → Value), j ≤ l.length ∧ i = .int .i64 j ∧ wr.rowIs w.heap.size 63 (l.length * 5) f ∧ (∀ t u, t < j * 5 → (l.flatMap Op5.cells)[t]? = some u → f t = u) ∧ Ext w wr) (fun i _ => l.length - (intOf i).toNat)
  case atStart => exact ⟨0, _, Nat.zero_le _, rfl, row_made w _ (l.length * 5) 63, fun t u ht => absurd ht (by omega), (by repeat (first | with_reducible assumption | with_reducible exact Ext.refl _ | with_reducible apply Ext.drewN | with_reducible apply Ext.drew | with_reducible apply Ext.alloc | with_reducible refine Ext.set ?_ (by first | (simp; done) | (simp; omega)) _ | with_reducible refine Ext.next ?_ (by with_reducible assumption)))⟩
  case round =>
    obtain ⟨j, f, hj, rfl, hrow, hhead, hext⟩ := hrel
    by_cases hlt : j < l.length
    · obtain ⟨b, o, x, rfl, hb, hx, hc0, hc1, hc2, hc3, hc4⟩ := (h.ext hext).at_ hlt
      have HX := hid hx
      have HR := hid hrow
      have HH := hid hhead
      clear hx h hhead hrow
      go_wp2_with fail
      refine (toOp5 x _).mono ?_
      rintro e w1 ⟨rfl, hw1⟩
      have hr1 := row_ext HR.out hw1
      have d0 := hr1.cell (i := j * 5) (by have := Nat.mul_le_mul_right 5 (show j + 1 ≤ l.length from hlt); omega)
      have f0 := hr1.frozen (j * 5)
      have d1 := hr1.cell (i := j * 5 + 1) (by have := Nat.mul_le_mul_right 5 (show j + 1 ≤ l.length from hlt); omega)
      have f1 := hr1.frozen (j * 5 + 1)
      have d2 := hr1.cell (i := j * 5 + 2) (by have := Nat.mul_le_mul_right 5 (show j + 1 ≤ l.length from hlt); omega)
      have f2 := hr1.frozen (j * 5 + 2)
      have d3 := hr1.cell (i := j * 5 + 3) (by have := Nat.mul_le_mul_right 5 (show j + 1 ≤ l.length from hlt); omega)
      have f3 := hr1.frozen (j * 5 + 3)
      have d4 := hr1.cell (i := j * 5 + 4) (by have := Nat.mul_le_mul_right 5 (show j + 1 ≤ l.length from hlt); omega)
      have f4 := hr1.frozen (j * 5 + 4)
      have HR1 := hid hr1
      clear hr1 hc0 hc1 hc2 hc3 hc4
      go_wp2
      go_roundw
      case rel =>
        refine ⟨j + 1, _, by omega, by go_num, (((((HR1.out.set (j * 5) (.int .i64 x.kind)).set (j * 5 + 1) (.int .i64 x.x)).set (j * 5 + 2) (.int .i64 x.y)).set (j * 5 + 3) (.int .i64 x.k)).set (j * 5 + 4) (.int .i64 x.at_)), head_snoc5 (fun t u ht hu => HH.out t u ht hu) (by rw [show j * 5 = j * 5 + 0 from rfl, flat_at Op5.len _ _ _ (by omega), HX.out]; rfl) (by rw [flat_at Op5.len _ _ _ (by omega), HX.out]; rfl) (by rw [flat_at Op5.len _ _ _ (by omega), HX.out]; rfl) (by rw [flat_at Op5.len _ _ _ (by omega), HX.out]; rfl) (by rw [flat_at Op5.len _ _ _ (by omega), HX.out]; rfl), (by repeat (first | with_reducible assumption | with_reducible exact Ext.refl _ | with_reducible apply Ext.drewN | with_reducible apply Ext.drew | with_reducible apply Ext.alloc | with_reducible refine Ext.set ?_ (by first | (simp; done) | (simp; omega)) _ | with_reducible refine Ext.next ?_ (by with_reducible assumption)))⟩
      case measure => simp [intOf]; omega
    · obtain rfl : j = l.length := by omega
      have HR := hid hrow
      have HH := hid hhead
      clear hrow hhead
      go_wp2
      go_ret
      exact ⟨_, _, rfl, own_of_cells HR.out (flat_length Op5.len l) HH.out (Nat.le_refl _) (by unfold maxLen; omega), hext⟩

set_option maxHeartbeats 800000 in
theorem eqOp5S (A A' : Option Addr) (k k' n : Nat) (l : List Op5) (w : World) (h : ROp5 63 w A l) (h' : ROp5 63 w A' l) (hl : l.length = n) (hn : n < 4611686018427387904) :
    Calls Try.prog 41 #[.slice A n k, .slice A' n k'] w fun e w' => e = .returned (.bool true) ∧ Ext w w' := by
  subst hl
  go_enter Try.func41, Try.ntmps41
  go_wp2
  go_loopw [5] (fun i wr => ∃ j : Nat, j ≤ l.length ∧ i = .int .i64 j ∧ Ext w wr) (fun i _ => l.length - (intOf i).toNat)
  case atStart => exact ⟨0, Nat.zero_le _, rfl, Ext.refl _⟩
  case round =>
    obtain ⟨j, hj, rfl, hext⟩ := hrel
    by_cases hlt : j < l.length
    · obtain ⟨b, o, x, rfl, hb, hx, hc0, hc1, hc2, hc3, hc4⟩ := (h.ext hext).at_ hlt
      obtain ⟨b', o', y, rfl, hb', hy, hd0, hd1, hd2, hd3, hd4⟩ := (h'.ext hext).at_ hlt
      rw [hx] at hy
      injection hy with hy
      subst hy
      clear hx h h'
      go_wp2
      refine wp_region_over (by kernel_rfl) (by kernel_rfl) ?_
      repeat (go_big_quiet_step ((go_at_call 51; exact calls_over (eqOp5 x _))))
      refine wpQuiet_nil ?_
      rintro _ ⟨⟨wq, hwq⟩, rfl⟩
      go_wp2
      go_roundw
      case rel => exact ⟨j + 1, by omega, by go_num, (by repeat (first | with_reducible assumption | with_reducible exact Ext.refl _ | with_reducible apply Ext.drewN | with_reducible apply Ext.drew | with_reducible apply Ext.alloc | with_reducible refine Ext.set ?_ (by first | (simp; done) | (simp; omega)) _ | with_reducible refine Ext.next ?_ (by with_reducible assumption)))⟩
      case measure => simp [intOf]; omega
    · go_wp2
      go_ret
      exact ⟨rfl, hext⟩

/-- The marks of n records from k on. -/
def markOp5 (k : Int) (n : Nat) : List Op5 := (List.range n).map fun i : Nat => ⟨k + (5 * i : Nat), k + (5 * i : Nat) + 1, k + (5 * i : Nat) + 2, k + (5 * i : Nat) + 3, k + (5 * i : Nat) + 4⟩
theorem markOp5_length (k : Int) (n : Nat) : (markOp5 k n).length = n := by simp [markOp5]
theorem markOp5_at {k : Int} {n i : Nat} (h : i < n) : (markOp5 k n)[i]? = some ⟨k + (5 * i : Nat), k + (5 * i : Nat) + 1, k + (5 * i : Nat) + 2, k + (5 * i : Nat) + 3, k + (5 * i : Nat) + 4⟩ := by simp [markOp5, h]

theorem OOp5.cell {T : TypeId} {w : World} {lo k g : Nat} {l : List Op5} (h : OOp5 T w lo (some ⟨g, 0, none⟩) k l) {i j : Nat} (hi : i < l.length) (hj : j < 5) : ∃ u, w.cell? ⟨g, i * 5 + j, none⟩ = some (.int .i64 u) := by
  have hm := Nat.mul_le_mul_right 5 (show i + 1 ≤ l.length from hi)
  rw [World.ownsRow.cellAt h (i * 5 + j) (by omega), flat_at Op5.len _ _ _ hj, List.getElem?_eq_getElem hi]
  match j, hj with
  | 0, _ => exact ⟨_, rfl⟩
  | 1, _ => exact ⟨_, rfl⟩
  | 2, _ => exact ⟨_, rfl⟩
  | 3, _ => exact ⟨_, rfl⟩
  | 4, _ => exact ⟨_, rfl⟩
theorem OOp5.form {T : TypeId} {w : World} {lo k : Nat} {A : Option Addr} {l : List Op5} (h : OOp5 T w lo A k l) {i : Nat} (hi : i < l.length) : ∃ g, A = some ⟨g, 0, none⟩ ∧ g < w.heap.size ∧ ∀ t, w.frozen? ⟨g, t, none⟩ = false := by
  rcases h.2 with ⟨_, h0⟩ | ⟨g, cap, _, hv, _⟩
  · omega
  · injection hv with hA _ hc
    subst hA hc
    exact ⟨g, rfl, (own_atB h ⟨0, none, rfl⟩).2, fun t => World.ownsRow.frozenAt h t⟩
theorem flat_put5 : ∀ {l : List Op5} {i : Nat} {x y : Op5}, l[i]? = some x → (l.set i y).flatMap Op5.cells = ((((((l.flatMap Op5.cells).set (i * 5) (.int .i64 y.kind)).set (i * 5 + 1) (.int .i64 y.x)).set (i * 5 + 2) (.int .i64 y.y)).set (i * 5 + 3) (.int .i64 y.k)).set (i * 5 + 4) (.int .i64 y.at_))
  | [], i, x, y, h => by simp at h
  | a :: l, 0, x, y, h => by
    simp at h
    subst h
    simp [Op5.cells, List.flatMap_cons]
  | a :: l, i + 1, x, y, h => by
    have := flat_put5 (l := l) (i := i) (x := x) (y := y) (by simpa using h)
    rw [List.set_cons_succ, List.flatMap_cons, List.flatMap_cons, this]
    simp only [show (i + 1) * 5 = i * 5 + 5 from by omega, Op5.cells]
    simp [Nat.add_assoc, Nat.add_comm 5, List.set_cons_succ]
theorem OOp5.put {T : TypeId} {w : World} {lo k g : Nat} {l : List Op5} (h : OOp5 T w lo (some ⟨g, 0, none⟩) k l) {i : Nat} {x : Op5} (hx : l[i]? = some x) (y : Op5) :
    OOp5 T (((((w.setCell ⟨g, i * 5, none⟩ (.int .i64 y.kind)).setCell ⟨g, i * 5 + 1, none⟩ (.int .i64 y.x)).setCell ⟨g, i * 5 + 2, none⟩ (.int .i64 y.y)).setCell ⟨g, i * 5 + 3, none⟩ (.int .i64 y.k)).setCell ⟨g, i * 5 + 4, none⟩ (.int .i64 y.at_)) lo (some ⟨g, 0, none⟩) k (l.set i y) := by
  unfold OOp5
  rw [List.length_set, flat_put5 hx]
  exact (World.ownsRow.stored (World.ownsRow.stored (World.ownsRow.stored (World.ownsRow.stored (World.ownsRow.stored h _ _).1 _ _).1 _ _).1 _ _).1 _ _).1





end Go.Proofs.Ytcjeeggffeoilaa
