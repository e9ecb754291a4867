/- Words for memory, and small plain lemmas: no program in sight. Conditions: none. -/
import Derived.WalkKit
import Derived.ProofKit
import Derived.OpenShut
import Derived.WalkLawsBesides
import Derived.WalkSpells
import Derived.Deep.Draws
import Derived.Deep.OwnRows
import Derived.Deep.QuietTactic
import Derived.BigQuiet
import Derived.Laws.Rows
import Derived.Laws.OwnMore
import Derived.Laws.BitsAllLaws
import Derived.Laws.BitsLemmas
namespace Go.Proofs.Ytcjeeggffeoilaa
open Go Go.RowKit

theorem ret_bool {a b : Bool} (h : a = b) : Ending.returned (.bool a) = .returned (.bool b) := by rw [h]
theorem ret_int {k : IntKind} {a b : Int} (h : a = b) : Ending.returned (.int k a) = .returned (.int k b) := by rw [h]
theorem hid {p : Prop} (h : p) : Hid p := h

/-! ### frames -/
/-- What was there stands; new blocks may have come. -/
def Ext (w w' : World) : Prop := Below w.heap.size w w'
theorem Ext.refl (w : World) : Ext w w := Below.refl _ _
theorem Ext.out {w w' : World} (h : Ext w w') : Below w.heap.size w w' := h
theorem Ext.next {w a b : World} (h : Ext w a) (k : Ext a b) : Ext w b := Below.trans h (Below.mono k (Below.size h))
theorem Ext.alloc {w a : World} (h : Ext w a) (o : Obj) : Ext w (a.alloc o) := Below.alloc h (Below.size h) o
theorem Ext.drew {w a : World} (h : Ext w a) : Ext w a.drew := Below.drew h
theorem Ext.drewN {w a : World} (h : Ext w a) (n : Nat) : Ext w (a.drewN n) := ⟨h.os, h.tape, h.output, h.size, h.block⟩
theorem Ext.set {w a : World} (h : Ext w a) {p : Addr} (hp : w.heap.size ≤ p.block) (u : Value) : Ext w (a.setCell p u) := Below.setCell h hp u
theorem Ext.grown {w a b : World} {row : Option Nat} (h : Ext w a) (hg : a.grownBy b row) (hr : ∀ k, row = some k → w.heap.size ≤ k) : Ext w b := Below.grown h hg (Below.size h) hr
theorem Ext.size {w a : World} (h : Ext w a) : w.heap.size ≤ a.heap.size := Below.size h
theorem Ext.block {w a : World} (h : Ext w a) {k : Nat} (hk : k < w.heap.size) : a.heap[k]? = w.heap[k]? := Below.block h k hk
theorem Ext.cell {w a : World} (h : Ext w a) {p : Addr} (hp : p.block < w.heap.size) : a.cell? p = w.cell? p := Below.cell h hp
theorem Ext.frozen {w a : World} (h : Ext w a) {p : Addr} (hp : p.block < w.heap.size) : a.frozen? p = w.frozen? p := Below.frozen h hp
theorem Ext.cells {w a : World} (h : Ext w a) : ∀ b o, b < w.heap.size → a.cell? ⟨b, o, none⟩ = w.cell? ⟨b, o, none⟩ := fun b o hb => Below.cell (p := ⟨b, o, none⟩) h hb

theorem keep {w a : World} (h : Ext w a) {p : Addr} {v : Value} (hc : w.cell? p = some v) : a.cell? p = some v := (h.cell (World.block_lt_of_cell? w p hc)).trans hc
theorem keepf {w a : World} (h : Ext w a) {p : Addr} {v : Value} {f : Bool} (hc : w.cell? p = some v) (hf : w.frozen? p = f) : a.frozen? p = f := (h.frozen (World.block_lt_of_cell? w p hc)).trans hf
theorem lt_ext {w a : World} (h : Ext w a) {n : Nat} (hn : n < w.heap.size) : n < a.heap.size := Nat.lt_of_lt_of_le hn h.size

/-- As 'Ext', but for the blocks of S. -/
structure Upd (S : Nat → Prop) (w w' : World) : Prop where
  os : w'.os = w.os
  tape : w'.tape = w.tape
  output : w'.output = w.output
  size : w.heap.size ≤ w'.heap.size
  block : ∀ k, k < w.heap.size → ¬ S k → w'.heap[k]? = w.heap[k]?

section
variable {S S' : Nat → Prop} {w a b : World}
theorem Upd.refl (S : Nat → Prop) (w : World) : Upd S w w := ⟨rfl, rfl, rfl, Nat.le_refl _, fun _ _ _ => rfl⟩
theorem Upd.of_ext (h : Ext w a) : Upd S w a := ⟨h.os, h.tape, h.output, h.size, fun k hk _ => Below.block h k hk⟩
theorem Upd.next (h : Upd S w a) (k : Upd S a b) : Upd S w b :=
  ⟨k.os.trans h.os, k.tape.trans h.tape, k.output.trans h.output, Nat.le_trans h.size k.size, fun i hi hs => (k.block i (Nat.lt_of_lt_of_le hi h.size) hs).trans (h.block i hi hs)⟩
theorem Upd.mono (h : Upd S w a) (hs : ∀ k, k < w.heap.size → S k → S' k) : Upd S' w a := ⟨h.os, h.tape, h.output, h.size, fun k hk hn => h.block k hk fun x => hn (hs k hk x)⟩
theorem Upd.ext (h : Upd S w a) (hs : ∀ k, S k → w.heap.size ≤ k) : Ext w a := ⟨h.os, h.tape, h.output, h.size, fun k hk => h.block k hk fun x => absurd (hs k x) (by omega)⟩
theorem Upd.alloc (h : Upd S w a) (o : Obj) : Upd S w (a.alloc o) := h.next (.of_ext ((Ext.refl _).alloc o))
theorem Upd.drew (h : Upd S w a) : Upd S w a.drew := h.next (.of_ext (Ext.refl _).drew)
theorem Upd.drewN (h : Upd S w a) (n : Nat) : Upd S w (a.drewN n) := h.next (.of_ext ((Ext.refl _).drewN n))
theorem Upd.set (h : Upd S w a) {p : Addr} (hp : S p.block ∨ w.heap.size ≤ p.block) (u : Value) : Upd S w (a.setCell p u) :=
  ⟨h.os, h.tape, h.output, by simpa using h.size, fun k hk hs => (Below.heap_setCell _ _ _ _ (by rintro rfl; rcases hp with hp | hp <;> first | exact hs hp | omega)).trans (h.block k hk hs)⟩
theorem Upd.grown {row : Option Nat} (h : Upd S w a) (hg : a.grownBy b row) (hr : ∀ k, row = some k → S k ∨ w.heap.size ≤ k) : Upd S w b :=
  ⟨hg.os.trans h.os, hg.tape.trans h.tape, hg.output.trans h.output, Nat.le_trans h.size hg.size, fun k hk hs =>
    (hg.block k (Nat.lt_of_lt_of_le hk h.size) (fun e => by rcases hr k e.symm with x | x <;> first | exact hs x | omega)).trans (h.block k hk hs)⟩
theorem Upd.cell (h : Upd S w a) {p : Addr} (hp : p.block < w.heap.size) (hs : ¬ S p.block) : a.cell? p = w.cell? p := World.cell?_of_block (w := w) (h.block p.block hp hs)
theorem Upd.frozen (h : Upd S w a) {p : Addr} (hp : p.block < w.heap.size) (hs : ¬ S p.block) : a.frozen? p = w.frozen? p := World.frozen?_of_block (w := w) (h.block p.block hp hs)
end

/-- A world over w: what was there stands. -/
structure Over (w : World) where
  to : World
  ext : Ext w to
instance (w : World) : Nonempty (Over w) := ⟨⟨w, Ext.refl w⟩⟩
@[go_sem] theorem Over.cell_ {w : World} (x : Over w) (b o : Nat) (h : b < w.heap.size) : x.to.cell? ⟨b, o, none⟩ = w.cell? ⟨b, o, none⟩ := x.ext.cell (p := ⟨b, o, none⟩) h
@[go_sem] theorem Over.frozen_ {w : World} (x : Over w) (b o : Nat) (h : b < w.heap.size) : x.to.frozen? ⟨b, o, none⟩ = w.frozen? ⟨b, o, none⟩ := x.ext.frozen (p := ⟨b, o, none⟩) h
/-- A region that draws its order, whose operations read or call what leaves old memory alone: one walk. -/
theorem wp_region_over {P : Program} {id : Nat} {Q : Exit → Act → World → Prop} {a : Act} {w : World} {l : List Oper} (hm : P.follows .mixedOrders = true) (hB : Region.lexB .any l.toArray = true)
    (h : wpQuiet P l.toArray (fun w' => ∃ x : Over w, w' = x.to) (fun a' => ∀ w', (∃ x : Over w, w' = x.to) → Q .normal a' w') l a) : (Code.region id l.toArray true).wp P Q a w :=
  wp_region_quiet (C := fun w' => ∃ x : Over w, w' = x.to) hm hB ⟨⟨w.drew, (Ext.refl w).drew⟩, rfl⟩ (by simpa using h)
theorem calls_over {P : Program} {f : FuncId} {args : Array Value} {w : World} {x : Over w} {v : Value} (h : Calls P f args x.to fun e w' => e = .returned v ∧ Ext x.to w') :
    Calls P f args x.to fun e w'' => e = .returned v ∧ ∃ y : Over w, w'' = y.to := h.mono fun _ _ ⟨he, hw⟩ => ⟨he, ⟨_, x.ext.next hw⟩, rfl⟩
theorem calls_over_same {P : Program} {f : FuncId} {args : Array Value} {w : World} {x : Over w} {v : Value} (h : Calls P f args x.to fun e w' => e = .returned v ∧ x.to = w') :
    Calls P f args x.to fun e w'' => e = .returned v ∧ ∃ y : Over w, w'' = y.to := h.mono fun _ _ ⟨he, hw⟩ => ⟨he, x, hw.symm⟩

/-! ### rows that are read -/
/-- The cells cs lie at A, in a block of element type T. -/
def Row (T : TypeId) (w : World) (A : Option Addr) (cs : List Value) : Prop :=
  cs ≠ [] → ∃ b o c fr, A = some ⟨b, o, none⟩ ∧ w.heap[b]? = some (.cells c T fr) ∧ ∀ j, j < cs.length → c[o + j]? = cs[j]?

theorem lt_of_heap {w : World} {b : Nat} {x : Obj} (h : w.heap[b]? = some x) : b < w.heap.size := (Array.getElem?_eq_some_iff.1 h).1

section
variable {T : TypeId} {w w' : World} {A : Option Addr} {cs : List Value}
theorem Row.nil (T : TypeId) (w : World) (A : Option Addr) : Row T w A [] := fun h => absurd rfl h
theorem Row.new (T : TypeId) (w : World) (l : List Value) : Row T (w.alloc (.cells l.toArray T)) (some ⟨w.heap.size, 0, none⟩) l := fun _ => ⟨_, 0, _, _, rfl, heap_alloc_new w _, by simp⟩
theorem Row.ext (h : Row T w A cs) (he : Ext w w') : Row T w' A cs := fun hn =>
  let ⟨b, o, c, fr, h1, h2, h3⟩ := h hn
  ⟨b, o, c, fr, h1, (he.block (lt_of_heap h2)).trans h2, h3⟩
theorem Row.upd {S : Nat → Prop} (h : Row T w A cs) (he : Upd S w w') (hs : ∀ b, (∃ c fr, w.heap[b]? = some (.cells c T fr)) → ¬ S b) : Row T w' A cs := fun hn =>
  let ⟨b, o, c, fr, h1, h2, h3⟩ := h hn
  ⟨b, o, c, fr, h1, (he.block b (lt_of_heap h2) (hs b ⟨c, fr, h2⟩)).trans h2, h3⟩
theorem Row.upd_lt {S : Nat → Prop} {w0 : World} (h : Row T w0 A cs) (h0 : Ext w0 w) (he : Upd S w w') (hs : ∀ b, b < w0.heap.size → ¬ S b) : Row T w' A cs := fun hn =>
  let ⟨b, o, c, fr, h1, h2, h3⟩ := h hn
  ⟨b, o, c, fr, h1, (he.block b (Nat.lt_of_lt_of_le (lt_of_heap h2) h0.size) (hs b (lt_of_heap h2))).trans ((h0.block (lt_of_heap h2)).trans h2), h3⟩
theorem Row.at_ (h : Row T w A cs) {j : Nat} {u : Value} (hu : cs[j]? = some u) : ∃ b o, A = some ⟨b, o, none⟩ ∧ b < w.heap.size ∧ w.cell? ⟨b, o + j, none⟩ = some u := by
  have hj : j < cs.length := by
    rcases Nat.lt_or_ge j cs.length with h | h
    · exact h
    · rw [List.getElem?_eq_none h] at hu; cases hu
  obtain ⟨b, o, c, fr, h1, h2, h3⟩ := h (by rintro rfl; simp at hj)
  exact ⟨b, o, h1, lt_of_heap h2, by rw [cell_of_row w b _ c T fr h2, h3 j hj, hu]⟩
theorem Row.of_own {base n c : Nat} {size : Nat} (h : w.ownsRow base T size (.slice A n c) n cs) : Row T w A cs := fun hn => by
  rcases h.2 with ⟨_, hz⟩ | ⟨g, cap, cur, hv, _, hg, _, _, _, ht⟩
  · have := h.1; subst hz; simp at this; exact absurd this hn
  · injection hv with hA _ _
    subst hA
    refine ⟨g, 0, cur, (0, 0), rfl, hg, fun j hj => ?_⟩
    have hl := h.1
    rw [← ht, List.getElem?_take, if_pos (by omega)]
    simp
end

/-- A slice that reads as the ints xs. -/
def RI (T : TypeId) (w : World) (A : Option Addr) (xs : List Int) : Prop := Row T w A (xs.map (Value.int .i64))
section
variable {T : TypeId} {w w' : World} {A : Option Addr} {xs : List Int}
theorem RI.nil (T : TypeId) (w : World) (A : Option Addr) : RI T w A [] := Row.nil _ _ _
theorem RI.ext (h : RI T w A xs) (he : Ext w w') : RI T w' A xs := Row.ext h he
theorem RI.upd {S : Nat → Prop} (h : RI T w A xs) (he : Upd S w w') (hs : ∀ b, (∃ c fr, w.heap[b]? = some (.cells c T fr)) → ¬ S b) : RI T w' A xs := Row.upd h he hs
theorem RI.upd_lt {S : Nat → Prop} {w0 : World} (h : RI T w0 A xs) (h0 : Ext w0 w) (he : Upd S w w') (hs : ∀ b, b < w0.heap.size → ¬ S b) : RI T w' A xs := Row.upd_lt h h0 he hs
theorem RI.at_ (h : RI T w A xs) {i : Nat} (hi : i < xs.length) : ∃ b o x, A = some ⟨b, o, none⟩ ∧ b < w.heap.size ∧ xs[i]? = some x ∧ w.cell? ⟨b, o + i, none⟩ = some (.int .i64 x) := by
  obtain ⟨b, o, h1, h2, h3⟩ := Row.at_ h (j := i) (u := .int .i64 xs[i]) (by simp [List.getElem?_eq_getElem hi])
  exact ⟨b, o, xs[i], h1, h2, List.getElem?_eq_getElem hi, h3⟩
end

theorem lt_step {α : Type} {P : Nat → α → Prop} {xs : List α} {j : Nat} {x : α} (h : ∀ t, t < j → ∀ y, xs[t]? = some y → P t y) (hx : xs[j]? = some x) (hp : P j x) : ∀ t, t < j + 1 → ∀ y, xs[t]? = some y → P t y := fun t ht y hy => by
  rcases Nat.lt_or_ge t j with h1 | h1
  · exact h t h1 y hy
  · obtain rfl : t = j := by omega
    rw [hx] at hy
    injection hy with hy
    rw [← hy]
    exact hp

theorem flat_at {α : Type} {f : α → List Value} {s : Nat} (hf : ∀ a, (f a).length = s) : ∀ (l : List α) (i j : Nat), j < s → (l.flatMap f)[i * s + j]? = l[i]?.bind fun a => (f a)[j]?
  | [], i, j, _ => by simp
  | a :: l, 0, j, hj => by simp [List.getElem?_append_left (show j < (f a).length by rw [hf]; exact hj)]
  | a :: l, i + 1, j, hj => by
    rw [List.flatMap_cons, List.getElem?_append_right (by rw [hf, Nat.add_mul]; omega), hf]
    rw [show (i + 1) * s + j - s = i * s + j from by rw [Nat.add_mul]; omega, flat_at hf l i j hj]
    simp
theorem flat_length {α : Type} {f : α → List Value} {s : Nat} (hf : ∀ a, (f a).length = s) : ∀ (l : List α), (l.flatMap f).length = l.length * s
  | [] => by simp
  | a :: l => by simp [flat_length hf l, hf, Nat.add_mul]; omega

/-- A part of a sum as it lies in memory. -/
structure Mn where
  c : Int
  A : Option Addr
  k : Nat
  xs : List Int
def Mn.cells (m : Mn) : List Value := [.int .i64 m.c, .slice m.A m.xs.length m.k]
def Mn.dat (m : Mn) : Int × List Int := (m.c, m.xs)
/-- A slice that reads as the parts ms (TM: their type's number; TI: int's). -/
def RM (TM TI : TypeId) (w : World) (A : Option Addr) (ms : List Mn) : Prop := Row TM w A (ms.flatMap Mn.cells) ∧ ∀ m ∈ ms, RI TI w m.A m.xs
section
variable {TM TI : TypeId} {w w' : World} {A : Option Addr} {ms : List Mn}
theorem RM.nil (w : World) (A : Option Addr) : RM TM TI w A [] := ⟨Row.nil _ _ _, fun _ h => by cases h⟩
theorem RM.ext (h : RM TM TI w A ms) (he : Ext w w') : RM TM TI w' A ms := ⟨h.1.ext he, fun m hm => (h.2 m hm).ext he⟩
theorem RM.upd_lt {S : Nat → Prop} {w0 : World} (h : RM TM TI w0 A ms) (h0 : Ext w0 w) (he : Upd S w w') (hs : ∀ b, b < w0.heap.size → ¬ S b) : RM TM TI w' A ms :=
  ⟨h.1.upd_lt h0 he hs, fun m hm => (h.2 m hm).upd_lt h0 he hs⟩
theorem RM.at_ (h : RM TM TI w A ms) {i : Nat} (hi : i < ms.length) : ∃ b o m, A = some ⟨b, o, none⟩ ∧ b < w.heap.size ∧ ms[i]? = some m ∧
    w.cell? ⟨b, o + i * 2, none⟩ = some (.int .i64 m.c) ∧ w.cell? ⟨b, o + i * 2 + 1, none⟩ = some (.slice m.A m.xs.length m.k) ∧ RI TI w m.A m.xs := by
  have hm : ms[i]? = some ms[i] := List.getElem?_eq_getElem hi
  have hl : ∀ a : Mn, a.cells.length = 2 := fun _ => rfl
  obtain ⟨b, o, h1, h2, h3⟩ := Row.at_ h.1 (j := i * 2 + 0) (u := .int .i64 ms[i].c) (by rw [flat_at hl _ _ _ (by omega), hm]; rfl)
  obtain ⟨b', o', h1', _, h3'⟩ := Row.at_ h.1 (j := i * 2 + 1) (u := .slice ms[i].A ms[i].xs.length ms[i].k) (by rw [flat_at hl _ _ _ (by omega), hm]; rfl)
  rw [h1] at h1'
  injection h1' with h1'
  injection h1' with e1 e2 _
  subst e1 e2
  exact ⟨b, o, ms[i], h1, h2, hm, h3, h3', h.2 _ (List.getElem_mem hi)⟩
end
/-- No length is beyond what a machine can hold. -/
def SzM (ms : List Mn) : Prop := ms.length < 4611686018427387904 ∧ ∀ m ∈ ms, m.xs.length < 4611686018427387904
theorem SzM.at_ {ms : List Mn} (h : SzM ms) {i : Nat} {m : Mn} (hm : ms[i]? = some m) : m.xs.length < 4611686018427387904 := h.2 m (List.mem_of_getElem? hm)
end Go.Proofs.Ytcjeeggffeoilaa
