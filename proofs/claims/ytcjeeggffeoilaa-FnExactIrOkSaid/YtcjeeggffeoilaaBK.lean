/- Pieces of code as data: how they read; contracts of what measures, copies and compares them (the laws' own helpers). Conditions: lengths that a machine can hold. -/
import Derived.Test.YtcjeeggffeoilaaMD
import Derived.Test.YtcjeeggffeoilaaI5
namespace Go.Proofs.Ytcjeeggffeoilaa
open Go Go.RowKit Go.WideShapes Go.Deep Go.ChangeShapes
set_option linter.unusedVariables false
set_option linter.unusedSimpArgs false

/-- A piece of code as it lies in memory. -/
structure Bk where
  pc : Int
  len : Int
  A : Option Addr
  c : Nat
  ops : List Op5
  end_ : Int
  x : Int
  y : Int
  k : Int
def Bk.cells (b : Bk) : Array Value := #[.int .i64 b.pc, .int .i64 b.len, .slice b.A b.ops.length b.c, .int .i64 b.end_, .int .i64 b.x, .int .i64 b.y, .int .i64 b.k]
def Bk.val (b : Bk) : Value := .agg b.cells
def Bk.dat (b : Bk) := (b.pc, b.len, b.ops, b.end_, b.x, b.y, b.k)
def ABk (w : World) (b : Bk) : Prop := AOp5 w b.A b.ops
def RBk (T : TypeId) (w : World) (b : Bk) : Prop := ROp5 T w b.A b.ops
def OBk (T : TypeId) (w : World) (lo : Nat) (b : Bk) : Prop := OOp5 T w lo b.A b.c b.ops
theorem ABk.ext {w w' : World} {b : Bk} (h : ABk w b) (he : Ext w w') : ABk w' b := AR.ext h he
theorem RBk.ext {T : TypeId} {w w' : World} {b : Bk} (h : RBk T w b) (he : Ext w w') : RBk T w' b := Row.ext h he
theorem OBk.rm {T : TypeId} {w : World} {lo : Nat} {b : Bk} (h : OBk T w lo b) : RBk T w b := Row.of_own h

set_option maxRecDepth 100000 in
theorem read_block {H : Type} {enc : TypeId × Value → H} {W : World} {base : Nat} {v : Value} {d : DataW H} {p : List MemPlace} (hv : Value.okWide Try.prog W .any base 39 v) (h : DataW.Trod enc Try.prog W 0 (fun _ => true) true 39 v d p) :
    ∃ b : Bk, v = b.val ∧ ABk W b ∧ b.ops.length ≤ 9223372036854775807 := by
  obtain ⟨cs, rfl, hsz⟩ := okWide_struct Try.underlying39 hv
  obtain ⟨fuel, hf⟩ := h
  obtain ⟨v0, v1, v2, v3, v4, v5, v6, n, y0, y1, y2, y3, y4, y5, y6, e, h0, h1, h2, h3, h4, h5, h6⟩ := trod_seven Try.underlying39 rfl rfl rfl rfl rfl rfl rfl (by kernel_rfl) (by kernel_rfl) (by kernel_rfl) (by kernel_rfl) (by kernel_rfl) (by kernel_rfl) (by kernel_rfl) (by kernel_rfl) hf
  obtain ⟨x0, e0, _⟩ := DataW.trod_int Try.underlying3 h0
  obtain ⟨x1, e1, _⟩ := DataW.trod_int Try.underlying3 h1
  obtain ⟨A, k, l, e2, hA, _, hn⟩ := trod_list (f := Op5.cells) (s := 5) (Q := fun _ => True) Op5.len (by decide) Try.underlying37 (by kernel_rfl) (fun n cs' y hy => by
    obtain ⟨v0, v1, v2, v3, v4, n', y0, y1, y2, y3, y4, rfl, g0, g1, g2, g3, g4⟩ := trod_five Try.underlying65 rfl rfl rfl rfl rfl (by kernel_rfl) (by kernel_rfl) (by kernel_rfl) (by kernel_rfl) (by kernel_rfl) (by kernel_rfl) hy
    obtain ⟨x0, e0, _⟩ := DataW.trod_int Try.underlying3 g0
    obtain ⟨x1, e1, _⟩ := DataW.trod_int Try.underlying3 g1
    obtain ⟨x2, e2, _⟩ := DataW.trod_int Try.underlying3 g2
    obtain ⟨x3, e3, _⟩ := DataW.trod_int Try.underlying3 g3
    obtain ⟨x4, e4, _⟩ := DataW.trod_int Try.underlying3 g4
    injection e0 with e0 _
    injection e1 with e1 _
    injection e2 with e2 _
    injection e3 with e3 _
    injection e4 with e4 _
    subst e0 e1 e2 e3 e4
    exact ⟨⟨x0, x1, x2, x3, x4⟩, rfl, trivial⟩) h2
  obtain ⟨x3, e3, _⟩ := DataW.trod_int Try.underlying3 h3
  obtain ⟨x4, e4, _⟩ := DataW.trod_int Try.underlying3 h4
  obtain ⟨x5, e5, _⟩ := DataW.trod_int Try.underlying3 h5
  obtain ⟨x6, e6, _⟩ := DataW.trod_int Try.underlying3 h6
  injection e0 with e0 _
  injection e1 with e1 _
  injection e2 with e2 _
  injection e3 with e3 _
  injection e4 with e4 _
  injection e5 with e5 _
  injection e6 with e6 _
  subst e0 e1 e2 e3 e4 e5 e6
  obtain ⟨q⟩ := cs
  simp only [Value.cells] at e
  exact ⟨⟨x0, x1, A, k, l, x3, x4, x5, x6⟩, by rw [show q = _ from e]; rfl, hA, hn⟩

theorem szBlock (b : Bk) (left : Int) (w : World) (hs : b.ops.length ≤ 9223372036854775807) (h0 : 0 ≤ left) (h1 : left ≤ 1048576) :
    Calls Try.prog 19 #[b.val, .int .i64 left] w fun e w' => e = .returned (.int .i64 (szF left b.ops.length)) ∧ Ext w w' := by
  unfold Bk.val Bk.cells
  by_cases h : left < b.ops.length
  · have E := hid (szF_lt h)
    go_enter Try.func19, Try.ntmps19
    go_wp2_with fail
    refine (szOp5S _ _ _ _ _ hs h0 h1).mono ?_
    rintro e w1 ⟨rfl, hw1⟩
    rw [E.out]
    go_wp2
    go_ret
    exact ⟨ret_int E.out.symm, (by repeat (first | with_reducible assumption | with_reducible exact Ext.refl _ | with_reducible apply Ext.drewN | with_reducible apply Ext.drew | with_reducible apply Ext.alloc | with_reducible refine Ext.set ?_ (by first | (simp; done) | (simp; omega)) _ | with_reducible refine Ext.next ?_ (by with_reducible assumption)))⟩
  · have E := hid (szF_ge (left := left) (n := b.ops.length) (by omega))
    go_enter Try.func19, Try.ntmps19
    go_wp2_with fail
    refine (szOp5S _ _ _ _ _ hs h0 h1).mono ?_
    rintro e w1 ⟨rfl, hw1⟩
    rw [E.out]
    go_wp2
    go_ret
    exact ⟨ret_int E.out.symm, (by repeat (first | with_reducible assumption | with_reducible exact Ext.refl _ | with_reducible apply Ext.drewN | with_reducible apply Ext.drew | with_reducible apply Ext.alloc | with_reducible refine Ext.set ?_ (by first | (simp; done) | (simp; omega)) _ | with_reducible refine Ext.next ?_ (by with_reducible assumption)))⟩

def RetBk (T : TypeId) (w : World) (d : Int × Int × List Op5 × Int × Int × Int × Int) (e : Ending) (w' : World) : Prop := ∃ b : Bk, e = .returned b.val ∧ b.dat = d ∧ OBk T w' w.heap.size b ∧ Ext w w'
theorem OOp5.upd_lo {T : TypeId} {w w' : World} {lo lo' k : Nat} {A : Option Addr} {l : List Op5} {S : Nat → Prop} (h : OOp5 T w lo A k l) (he : Upd S w w') (hs : ∀ b, S b → b < lo) (hl : lo' ≤ lo) : OOp5 T w' lo' A k l :=
  own_base (own_upd' h he fun b hb hb' => by have := (own_atB h hb).1; have := hs b hb'; omega) hl

set_option maxHeartbeats 1000000 in
theorem toBlock (b : Bk) (w : World) (h : ABk w b) (hn : b.ops.length ≤ 1048576) :
    Calls Try.prog 21 #[b.val] w (RetBk 63 w b.dat) := by
  unfold Bk.val Bk.cells
  go_enter Try.func21, Try.ntmps21
  go_wp2_with fail
  refine (toOp5S _ _ _ _ (h.ext (by repeat (first | with_reducible assumption | with_reducible exact Ext.refl _ | with_reducible apply Ext.drewN | with_reducible apply Ext.drew | with_reducible apply Ext.alloc | with_reducible refine Ext.set ?_ (by first | (simp; done) | (simp; omega)) _ | with_reducible refine Ext.next ?_ (by with_reducible assumption)))) hn).mono ?_
  rintro e w1 ⟨B0, j0, rfl, o0, hw1⟩
  obtain ⟨hc1, hf1⟩ := bcell_ hw1
  have hz1 : w.heap.size + 1 + 1 < w1.heap.size := by have := hw1.size; simp at this; omega
  have hy1 : w.heap.size + 1 < w1.heap.size := by omega
  have hx1 : w.heap.size < w1.heap.size := by omega
  have HR1 : Hid (∀ b, (b = w.heap.size + 1 ∨ b = w.heap.size + 1 + 1) → b < w.heap.size + 1 + 1 + 1) := hid fun b hb => by omega
  go_wp2
  refine bodyPost_ret (v := .agg #[.int .i64 b.pc, .int .i64 b.len, .slice B0 b.ops.length j0, .int .i64 b.end_, .int .i64 b.x, .int .i64 b.y, .int .i64 b.k]) (by simp [results, Try.results21, go_sem, *]) rfl ⟨⟨b.pc, b.len, B0, j0, b.ops, b.end_, b.x, b.y, b.k⟩, rfl, rfl, ?_, (by repeat (first | with_reducible assumption | with_reducible exact Ext.refl _ | with_reducible apply Ext.drewN | with_reducible apply Ext.drew | with_reducible apply Ext.alloc | with_reducible refine Ext.set ?_ (by first | (simp; done) | (simp; omega)) _ | with_reducible refine Ext.next ?_ (by with_reducible assumption)))⟩
  exact OOp5.upd_lo (S := fun b => b = w.heap.size + 1 ∨ b = w.heap.size + 1 + 1) o0 (by repeat (first | with_reducible assumption | with_reducible exact Upd.refl _ _ | with_reducible refine Upd.set ?_ (by first | (left; simp; done) | (left; omega)) _ | with_reducible refine Upd.next ?_ (Upd.of_ext (by with_reducible assumption)))) (by simp) (by simp; omega)

theorem eqBlock (b b' : Bk) (w : World) (h : RBk 63 w b) (h' : RBk 63 w b') (hd : b.dat = b'.dat) (hn : b.ops.length < 4611686018427387904) :
    Calls Try.prog 23 #[b.val, b'.val] w fun e w' => e = .returned (.bool true) ∧ Ext w w' := by
  obtain ⟨pc, len, A, c, ops, end_, x, y, k⟩ := b
  obtain ⟨pc', len', A', c', ops', end', x', y', k'⟩ := b'
  unfold Bk.dat at hd
  simp only [Prod.mk.injEq] at hd
  obtain ⟨rfl, rfl, rfl, rfl, rfl, rfl, rfl⟩ := hd
  unfold Bk.val Bk.cells
  simp only at hn ⊢
  go_enter Try.func23, Try.ntmps23
  go_wp2_with fail
  refine (eqOp5S _ _ _ _ _ ops _ (h.ext (by repeat (first | with_reducible assumption | with_reducible exact Ext.refl _ | with_reducible apply Ext.drewN | with_reducible apply Ext.drew | with_reducible apply Ext.alloc | with_reducible refine Ext.set ?_ (by first | (simp; done) | (simp; omega)) _ | with_reducible refine Ext.next ?_ (by with_reducible assumption)))) (h'.ext (by repeat (first | with_reducible assumption | with_reducible exact Ext.refl _ | with_reducible apply Ext.drewN | with_reducible apply Ext.drew | with_reducible apply Ext.alloc | with_reducible refine Ext.set ?_ (by first | (simp; done) | (simp; omega)) _ | with_reducible refine Ext.next ?_ (by with_reducible assumption)))) rfl hn).mono ?_
  rintro e w1 ⟨rfl, hw1⟩
  obtain ⟨hc1, hf1⟩ := bcell_ hw1
  have hz1 : w.heap.size + 1 < w1.heap.size := by have := hw1.size; simp at this; omega
  have hx1 : w.heap.size < w1.heap.size := by omega
  go_wp2
  go_ret
  exact ⟨rfl, (by repeat (first | with_reducible assumption | with_reducible exact Ext.refl _ | with_reducible apply Ext.drewN | with_reducible apply Ext.drew | with_reducible apply Ext.alloc | with_reducible refine Ext.set ?_ (by first | (simp; done) | (simp; omega)) _ | with_reducible refine Ext.next ?_ (by with_reducible assumption)))⟩

/-! ### what reaches out -/
def eventB (o : Op5) : Bool := inB o.kind 4 7
def events (l : List Op5) : Nat := (l.filter eventB).length
theorem events_take {l : List Op5} {j : Nat} {o : Op5} (h : l[j]? = some o) : events (l.take (j + 1)) = events (l.take j) + if eventB o then 1 else 0 := by
  unfold events
  rw [List.take_add_one, h, List.filter_append, List.length_append]
  cases he : eventB o <;> simp [he]
theorem events_le (l : List Op5) : events l ≤ l.length := List.length_filter_le _ _
end Go.Proofs.Ytcjeeggffeoilaa
