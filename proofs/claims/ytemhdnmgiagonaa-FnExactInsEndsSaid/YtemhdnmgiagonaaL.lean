/- Words for memory, and small plain lemmas: no program in sight. Conditions: none. -/
import Derived.WalkKit
import Derived.ProofKit
import Derived.OpenShut
import Derived.WalkLawsBesides
import Derived.WalkSpells
import Derived.Deep.Draws
import Derived.Deep.OwnRows
import Derived.Laws.Rows
import Derived.Laws.OwnMore
import Derived.Laws.BitsAllLaws
import Derived.Laws.BitsLemmas
namespace Go.Proofs.Ytemhdnmgiagonaa
open Go Go.RowKit

theorem ret_bool {a b : Bool} (h : a = b) : Ending.returned (.bool a) = .returned (.bool b) := by rw [h]
theorem ret_int {k : IntKind} {a b : Int} (h : a = b) : Ending.returned (.int k a) = .returned (.int k b) := by rw [h]
theorem hid {p : Prop} (h : p) : Hid p := h

/-! ### frames -/
/-- What was there stands; new blocks may have come. -/
def Ext (w w' : World) : Prop := Below w.heap.size w w'
theorem Ext.refl (w : World) : Ext w w := Below.refl _ _
theorem Ext.out {w w' : World} (h : Ext w w') : Below w.heap.size w w' := h
theorem Ext.next {w a b : World} (h : Ext w a) (k : Ext a b) : Ext w b := Below.trans h (Below.mono k (Below.size h))
theorem Ext.alloc {w a : World} (h : Ext w a) (o : Obj) : Ext w (a.alloc o) := Below.alloc h (Below.size h) o
theorem Ext.drew {w a : World} (h : Ext w a) : Ext w a.drew := Below.drew h
theorem Ext.drewN {w a : World} (h : Ext w a) (n : Nat) : Ext w (a.drewN n) := ⟨h.os, h.tape, h.output, h.size, h.block⟩
theorem Ext.set {w a : World} (h : Ext w a) {p : Addr} (hp : w.heap.size ≤ p.block) (u : Value) : Ext w (a.setCell p u) := Below.setCell h hp u
theorem Ext.grown {w a b : World} {row : Option Nat} (h : Ext w a) (hg : a.grownBy b row) (hr : ∀ k, row = some k → w.heap.size ≤ k) : Ext w b := Below.grown h hg (Below.size h) hr
theorem Ext.size {w a : World} (h : Ext w a) : w.heap.size ≤ a.heap.size := Below.size h
theorem Ext.block {w a : World} (h : Ext w a) {k : Nat} (hk : k < w.heap.size) : a.heap[k]? = w.heap[k]? := Below.block h k hk
theorem Ext.cell {w a : World} (h : Ext w a) {p : Addr} (hp : p.block < w.heap.size) : a.cell? p = w.cell? p := Below.cell h hp
theorem Ext.frozen {w a : World} (h : Ext w a) {p : Addr} (hp : p.block < w.heap.size) : a.frozen? p = w.frozen? p := Below.frozen h hp
theorem Ext.cells {w a : World} (h : Ext w a) : ∀ b o, b < w.heap.size → a.cell? ⟨b, o, none⟩ = w.cell? ⟨b, o, none⟩ := fun b o hb => Below.cell (p := ⟨b, o, none⟩) h hb

/-- As 'Ext', but for the blocks of S. -/
structure Upd (S : Nat → Prop) (w w' : World) : Prop where
  os : w'.os = w.os
  tape : w'.tape = w.tape
  output : w'.output = w.output
  size : w.heap.size ≤ w'.heap.size
  block : ∀ k, k < w.heap.size → ¬ S k → w'.heap[k]? = w.heap[k]?

section
variable {S S' : Nat → Prop} {w a b : World}
theorem Upd.refl (S : Nat → Prop) (w : World) : Upd S w w := ⟨rfl, rfl, rfl, Nat.le_refl _, fun _ _ _ => rfl⟩
theorem Upd.of_ext (h : Ext w a) : Upd S w a := ⟨h.os, h.tape, h.output, h.size, fun k hk _ => Below.block h k hk⟩
theorem Upd.next (h : Upd S w a) (k : Upd S a b) : Upd S w b :=
  ⟨k.os.trans h.os, k.tape.trans h.tape, k.output.trans h.output, Nat.le_trans h.size k.size, fun i hi hs => (k.block i (Nat.lt_of_lt_of_le hi h.size) hs).trans (h.block i hi hs)⟩
theorem Upd.mono (h : Upd S w a) (hs : ∀ k, k < w.heap.size → S k → S' k) : Upd S' w a := ⟨h.os, h.tape, h.output, h.size, fun k hk hn => h.block k hk fun x => hn (hs k hk x)⟩
theorem Upd.ext (h : Upd S w a) (hs : ∀ k, S k → w.heap.size ≤ k) : Ext w a := ⟨h.os, h.tape, h.output, h.size, fun k hk => h.block k hk fun x => absurd (hs k x) (by omega)⟩
theorem Upd.alloc (h : Upd S w a) (o : Obj) : Upd S w (a.alloc o) := h.next (.of_ext ((Ext.refl _).alloc o))
theorem Upd.drew (h : Upd S w a) : Upd S w a.drew := h.next (.of_ext (Ext.refl _).drew)
theorem Upd.drewN (h : Upd S w a) (n : Nat) : Upd S w (a.drewN n) := h.next (.of_ext ((Ext.refl _).drewN n))
theorem Upd.set (h : Upd S w a) {p : Addr} (hp : S p.block ∨ w.heap.size ≤ p.block) (u : Value) : Upd S w (a.setCell p u) :=
  ⟨h.os, h.tape, h.output, by simpa using h.size, fun k hk hs => (Below.heap_setCell _ _ _ _ (by rintro rfl; rcases hp with hp | hp <;> first | exact hs hp | omega)).trans (h.block k hk hs)⟩
theorem Upd.grown {row : Option Nat} (h : Upd S w a) (hg : a.grownBy b row) (hr : ∀ k, row = some k → S k ∨ w.heap.size ≤ k) : Upd S w b :=
  ⟨hg.os.trans h.os, hg.tape.trans h.tape, hg.output.trans h.output, Nat.le_trans h.size hg.size, fun k hk hs =>
    (hg.block k (Nat.lt_of_lt_of_le hk h.size) (fun e => by rcases hr k e.symm with x | x <;> first | exact hs x | omega)).trans (h.block k hk hs)⟩
theorem Upd.cell (h : Upd S w a) {p : Addr} (hp : p.block < w.heap.size) (hs : ¬ S p.block) : a.cell? p = w.cell? p := World.cell?_of_block (w := w) (h.block p.block hp hs)
theorem Upd.frozen (h : Upd S w a) {p : Addr} (hp : p.block < w.heap.size) (hs : ¬ S p.block) : a.frozen? p = w.frozen? p := World.frozen?_of_block (w := w) (h.block p.block hp hs)
end

/-! ### rows that are read -/
/-- The cells cs lie at A, in a block of element type T. -/
def Row (T : TypeId) (w : World) (A : Option Addr) (cs : List Value) : Prop :=
  cs ≠ [] → ∃ b o c fr, A = some ⟨b, o, none⟩ ∧ w.heap[b]? = some (.cells c T fr) ∧ ∀ j, j < cs.length → c[o + j]? = cs[j]?

theorem lt_of_heap {w : World} {b : Nat} {x : Obj} (h : w.heap[b]? = some x) : b < w.heap.size := (Array.getElem?_eq_some_iff.1 h).1

section
variable {T : TypeId} {w w' : World} {A : Option Addr} {cs : List Value}
theorem Row.nil (T : TypeId) (w : World) (A : Option Addr) : Row T w A [] := fun h => absurd rfl h
theorem Row.ext (h : Row T w A cs) (he : Ext w w') : Row T w' A cs := fun hn =>
  let ⟨b, o, c, fr, h1, h2, h3⟩ := h hn
  ⟨b, o, c, fr, h1, (he.block (lt_of_heap h2)).trans h2, h3⟩
theorem Row.upd {S : Nat → Prop} (h : Row T w A cs) (he : Upd S w w') (hs : ∀ b, (∃ c fr, w.heap[b]? = some (.cells c T fr)) → ¬ S b) : Row T w' A cs := fun hn =>
  let ⟨b, o, c, fr, h1, h2, h3⟩ := h hn
  ⟨b, o, c, fr, h1, (he.block b (lt_of_heap h2) (hs b ⟨c, fr, h2⟩)).trans h2, h3⟩
theorem Row.upd_lt {S : Nat → Prop} {w0 : World} (h : Row T w0 A cs) (h0 : Ext w0 w) (he : Upd S w w') (hs : ∀ b, b < w0.heap.size → ¬ S b) : Row T w' A cs := fun hn =>
  let ⟨b, o, c, fr, h1, h2, h3⟩ := h hn
  ⟨b, o, c, fr, h1, (he.block b (Nat.lt_of_lt_of_le (lt_of_heap h2) h0.size) (hs b (lt_of_heap h2))).trans ((h0.block (lt_of_heap h2)).trans h2), h3⟩
theorem Row.at_ (h : Row T w A cs) {j : Nat} {u : Value} (hu : cs[j]? = some u) : ∃ b o, A = some ⟨b, o, none⟩ ∧ b < w.heap.size ∧ w.cell? ⟨b, o + j, none⟩ = some u := by
  have hj : j < cs.length := by
    rcases Nat.lt_or_ge j cs.length with h | h
    · exact h
    · rw [List.getElem?_eq_none h] at hu; cases hu
  obtain ⟨b, o, c, fr, h1, h2, h3⟩ := h (by rintro rfl; simp at hj)
  exact ⟨b, o, h1, lt_of_heap h2, by rw [cell_of_row w b _ c T fr h2, h3 j hj, hu]⟩
theorem Row.of_own {base n c : Nat} {size : Nat} (h : w.ownsRow base T size (.slice A n c) n cs) : Row T w A cs := fun hn => by
  rcases h.2 with ⟨_, hz⟩ | ⟨g, cap, cur, hv, _, hg, _, _, _, ht⟩
  · have := h.1; subst hz; simp at this; exact absurd this hn
  · injection hv with hA _ _
    subst hA
    refine ⟨g, 0, cur, (0, 0), rfl, hg, fun j hj => ?_⟩
    have hl := h.1
    rw [← ht, List.getElem?_take, if_pos (by omega)]
    simp
end

/-- A slice that reads as the ints xs. -/
def RI (T : TypeId) (w : World) (A : Option Addr) (xs : List Int) : Prop := Row T w A (xs.map (Value.int .i64))
section
variable {T : TypeId} {w w' : World} {A : Option Addr} {xs : List Int}
theorem RI.nil (T : TypeId) (w : World) (A : Option Addr) : RI T w A [] := Row.nil _ _ _
theorem RI.ext (h : RI T w A xs) (he : Ext w w') : RI T w' A xs := Row.ext h he
theorem RI.upd {S : Nat → Prop} (h : RI T w A xs) (he : Upd S w w') (hs : ∀ b, (∃ c fr, w.heap[b]? = some (.cells c T fr)) → ¬ S b) : RI T w' A xs := Row.upd h he hs
theorem RI.upd_lt {S : Nat → Prop} {w0 : World} (h : RI T w0 A xs) (h0 : Ext w0 w) (he : Upd S w w') (hs : ∀ b, b < w0.heap.size → ¬ S b) : RI T w' A xs := Row.upd_lt h h0 he hs
theorem RI.at_ (h : RI T w A xs) {i : Nat} (hi : i < xs.length) : ∃ b o x, A = some ⟨b, o, none⟩ ∧ b < w.heap.size ∧ xs[i]? = some x ∧ w.cell? ⟨b, o + i, none⟩ = some (.int .i64 x) := by
  obtain ⟨b, o, h1, h2, h3⟩ := Row.at_ h (j := i) (u := .int .i64 xs[i]) (by simp [List.getElem?_eq_getElem hi])
  exact ⟨b, o, xs[i], h1, h2, List.getElem?_eq_getElem hi, h3⟩
end

theorem flat_at {α : Type} {f : α → List Value} {s : Nat} (hf : ∀ a, (f a).length = s) : ∀ (l : List α) (i j : Nat), j < s → (l.flatMap f)[i * s + j]? = l[i]?.bind fun a => (f a)[j]?
  | [], i, j, _ => by simp
  | a :: l, 0, j, hj => by simp [List.getElem?_append_left (show j < (f a).length by rw [hf]; exact hj)]
  | a :: l, i + 1, j, hj => by
    rw [List.flatMap_cons, List.getElem?_append_right (by rw [hf, Nat.add_mul]; omega), hf]
    rw [show (i + 1) * s + j - s = i * s + j from by rw [Nat.add_mul]; omega, flat_at hf l i j hj]
    simp
theorem flat_length {α : Type} {f : α → List Value} {s : Nat} (hf : ∀ a, (f a).length = s) : ∀ (l : List α), (l.flatMap f).length = l.length * s
  | [] => by simp
  | a :: l => by simp [flat_length hf l, hf, Nat.add_mul]; omega

/-- A part of a sum as it lies in memory. -/
structure Mn where
  c : Int
  A : Option Addr
  k : Nat
  xs : List Int
def Mn.cells (m : Mn) : List Value := [.int .i64 m.c, .slice m.A m.xs.length m.k]
def Mn.dat (m : Mn) : Int × List Int := (m.c, m.xs)
/-- A slice that reads as the parts ms (TM: their type's number; TI: int's). -/
def RM (TM TI : TypeId) (w : World) (A : Option Addr) (ms : List Mn) : Prop := Row TM w A (ms.flatMap Mn.cells) ∧ ∀ m ∈ ms, RI TI w m.A m.xs
section
variable {TM TI : TypeId} {w w' : World} {A : Option Addr} {ms : List Mn}
theorem RM.nil (w : World) (A : Option Addr) : RM TM TI w A [] := ⟨Row.nil _ _ _, fun _ h => by cases h⟩
theorem RM.ext (h : RM TM TI w A ms) (he : Ext w w') : RM TM TI w' A ms := ⟨h.1.ext he, fun m hm => (h.2 m hm).ext he⟩
theorem RM.upd_lt {S : Nat → Prop} {w0 : World} (h : RM TM TI w0 A ms) (h0 : Ext w0 w) (he : Upd S w w') (hs : ∀ b, b < w0.heap.size → ¬ S b) : RM TM TI w' A ms :=
  ⟨h.1.upd_lt h0 he hs, fun m hm => (h.2 m hm).upd_lt h0 he hs⟩
theorem RM.at_ (h : RM TM TI w A ms) {i : Nat} (hi : i < ms.length) : ∃ b o m, A = some ⟨b, o, none⟩ ∧ b < w.heap.size ∧ ms[i]? = some m ∧
    w.cell? ⟨b, o + i * 2, none⟩ = some (.int .i64 m.c) ∧ w.cell? ⟨b, o + i * 2 + 1, none⟩ = some (.slice m.A m.xs.length m.k) ∧ RI TI w m.A m.xs := by
  have hm : ms[i]? = some ms[i] := List.getElem?_eq_getElem hi
  have hl : ∀ a : Mn, a.cells.length = 2 := fun _ => rfl
  obtain ⟨b, o, h1, h2, h3⟩ := Row.at_ h.1 (j := i * 2 + 0) (u := .int .i64 ms[i].c) (by rw [flat_at hl _ _ _ (by omega), hm]; rfl)
  obtain ⟨b', o', h1', _, h3'⟩ := Row.at_ h.1 (j := i * 2 + 1) (u := .slice ms[i].A ms[i].xs.length ms[i].k) (by rw [flat_at hl _ _ _ (by omega), hm]; rfl)
  rw [h1] at h1'
  injection h1' with h1'
  injection h1' with e1 e2 _
  subst e1 e2
  exact ⟨b, o, ms[i], h1, h2, hm, h3, h3', h.2 _ (List.getElem_mem hi)⟩
end
end Go.Proofs.Ytemhdnmgiagonaa
