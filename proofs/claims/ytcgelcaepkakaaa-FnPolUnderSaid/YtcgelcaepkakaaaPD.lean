/- Sums that a draw leaves, in memory of its own that a reader does not reach. Conditions: none. -/
import Derived.Test.YtcgelcaepkakaaaZ8
import Derived.Test.YtcgelcaepkakaaaG
import Derived.Test.YtcgelcaepkakaaaJ
import Derived.Test.YtcgelcaepkakaaaI2
import Derived.Deep.DeepCutAuto
namespace Go.Proofs.Ytcgelcaepkakaaa
open Go Go.RowKit
set_option linter.unusedVariables false
set_option linter.unusedSimpArgs false

theorem Row.upd_at2 {T : TypeId} {w w' : World} {A : Option Addr} {cs : List Value} {S : Nat → Prop} (h : Row T w A cs) (he : Upd S w w') (hs : cs ≠ [] → ∀ b, atB A b → ¬ S b) : Row T w' A cs := fun hn =>
  let ⟨b, o, c, fr, h1, h2, h3⟩ := h hn
  ⟨b, o, c, fr, h1, (he.block b (lt_of_heap h2) (hs hn b ⟨o, none, h1⟩)).trans h2, h3⟩
theorem Row.upd_at {T : TypeId} {w w' : World} {A : Option Addr} {cs : List Value} {S : Nat → Prop} (h : Row T w A cs) (he : Upd S w w') (hs : ∀ b, atB A b → ¬ S b) : Row T w' A cs := fun hn =>
  let ⟨b, o, c, fr, h1, h2, h3⟩ := h hn
  ⟨b, o, c, fr, h1, (he.block b (lt_of_heap h2) (hs b ⟨o, none, h1⟩)).trans h2, h3⟩
/-- Lengths of what is drawn. -/
def SzP (N : Nat) (ms : List Mn) : Prop := ms.length ≤ N ∧ ∀ m ∈ ms, m.xs.length ≤ 100
theorem SzP.szM {N : Nat} {ms : List Mn} (h : SzP N ms) (hN : N ≤ 1000) : SzM ms := ⟨by have := h.1; omega, fun m hm => by have := h.2 m hm; omega⟩
theorem SzP.of_ok {ms : List Mn} (h : polOk (ms.map Mn.dat) = true) : SzP 100 ms := by
  obtain ⟨h1, h2, _⟩ := ok_small h
  exact ⟨by omega, fun m hm => by have := h2 m hm; omega⟩
/-- A drawn sum: a row of its own from lo on, and atoms from lo on. -/
structure GPN (N : Nat) (TM TI : TypeId) (w : World) (lo : Nat) (A : Option Addr) (k : Nat) (ms : List Mn) : Prop where
  lm : LM TM TI w lo A k ms
  at_ : ∀ m ∈ ms, ∀ b, atB m.A b → lo ≤ b
  sz : SzP N ms
abbrev GP := GPN 100
section
variable {N : Nat} {TM TI : TypeId} {w w' : World} {lo lo' k : Nat} {A : Option Addr} {ms : List Mn} {S : Nat → Prop}
theorem GPN.ext (h : GPN N TM TI w lo A k ms) (he : Ext w w') : GPN N TM TI w' lo A k ms := ⟨h.lm.ext he, h.at_, h.sz⟩
theorem GPN.base (h : GPN N TM TI w lo A k ms) (hl : lo' ≤ lo) : GPN N TM TI w lo' A k ms := ⟨h.lm.base hl, fun m hm b hb => Nat.le_trans hl (h.at_ m hm b hb), h.sz⟩
theorem GPN.upd (h : GPN N TM TI w lo A k ms) (he : Upd S w w') (hs : ∀ b, S b → b < lo) : GPN N TM TI w' lo A k ms :=
  ⟨⟨own_upd' h.lm.1 he fun b hb hb' => by have h1 := (own_atB h.lm.1 hb).1; have h2 := hs b hb'; omega,
    fun m hm => ⟨Row.upd_at (h.lm.2 m hm).1 he fun b hb hb' => by have h1 := h.at_ m hm b hb; have h2 := hs b hb'; omega, (h.lm.2 m hm).2⟩⟩, h.at_, h.sz⟩
theorem GPN.lt_ (h : GPN N TM TI w lo A k ms) {m : Mn} (hm : m ∈ ms) (hx : m.xs ≠ []) {b : Nat} (hb : atB m.A b) : b < w.heap.size := by
  obtain ⟨b', o, x, e, hl, _⟩ := (h.lm.2 m hm).1.at_ (i := 0) (List.length_pos_iff.2 hx)
  obtain ⟨_, _, e'⟩ := hb
  rw [e] at e'
  injection e' with e'
  injection e' with e' _ _
  omega
theorem GPN.upd_at (h : GPN N TM TI w lo A k ms) (he : Upd S w w') (hA : ∀ b, atB A b → ¬ S b) (hm : ∀ m ∈ ms, m.xs ≠ [] → ∀ b, atB m.A b → ¬ S b) : GPN N TM TI w' lo A k ms :=
  ⟨⟨own_upd' h.lm.1 he hA, fun m hx => ⟨Row.upd_at2 (h.lm.2 m hx).1 he (fun hne => hm m hx (by rintro e; rw [e] at hne; exact hne rfl)), (h.lm.2 m hx).2⟩⟩, h.at_, h.sz⟩
theorem GPN.rn (h : GPN N TM TI w lo A k ms) : RN TM TI w A k ms := h.lm.rn
theorem GPN.rm (h : GPN N TM TI w lo A k ms) : RM TM TI w A ms := h.lm.rm
theorem GPN.of_om (h : OM TM TI w lo A k ms) (hs : SzP N ms) : GPN N TM TI w lo A k ms := ⟨h.lm, fun m hm b hb => (own_atB (h.2.1 m hm) hb).1, hs⟩
theorem GPN.of_ok (h : OM TM TI w lo A k ms) (hs : polOk (ms.map Mn.dat) = true) : GP TM TI w lo A k ms := .of_om h (.of_ok hs)
theorem GPN.szM (h : GPN N TM TI w lo A k ms) (hN : N ≤ 1000 := by decide) : SzM ms := h.sz.szM hN
theorem GPN.more {N' : Nat} (h : GPN N TM TI w lo A k ms) (hl : ms.length ≤ N') : GPN N' TM TI w lo A k ms := ⟨h.lm, h.at_, hl, h.sz.2⟩
end
/-- One part without atoms, in a row of one. -/
theorem GPN.one {TM TI : TypeId} (w : World) (c : Int) {lo : Nat} (hl : lo ≤ w.heap.size) : GP TM TI (w.alloc (.cells #[.int .i64 c, .slice none 0 0] TM)) lo (some ⟨w.heap.size, 0, none⟩) 1 [⟨c, none, 0, []⟩] := by
  refine ⟨⟨⟨rfl, .inr ⟨w.heap.size, 1, _, rfl, hl, heap_alloc_new w _, Nat.le_refl _, by unfold maxLen; omega, rfl, rfl⟩⟩, fun m hm => ?_⟩, fun m hm b hb => ?_, by simp, fun m hm => ?_⟩
  · rw [List.mem_singleton.1 hm]
    exact ⟨RI.nil _ _ _, fun _ => rfl, Nat.le_refl _⟩
  · rw [List.mem_singleton.1 hm] at hb
    obtain ⟨_, _, e⟩ := hb
    cases e
  · rw [List.mem_singleton.1 hm]
    simp
/-- A variable in a block of its own. -/
def Var (w : World) (b : Nat) (v : Value) : Prop := w.cell? ⟨b, 0, none⟩ = some v ∧ w.frozen? ⟨b, 0, none⟩ = false
theorem Var.lt {w : World} {b : Nat} {v : Value} (h : Var w b v) : b < w.heap.size := World.block_lt_of_cell? _ _ h.1
theorem Var.ext {w w' : World} {b : Nat} {v : Value} (h : Var w b v) (he : Ext w w') : Var w' b v := ⟨keep he h.1, keepf he h.1 h.2⟩
theorem Var.upd {w w' : World} {b : Nat} {v : Value} {S : Nat → Prop} (h : Var w b v) (he : Upd S w w') (hs : ¬ S b) : Var w' b v :=
  ⟨(he.cell (p := ⟨b, 0, none⟩) h.lt hs).trans h.1, (he.frozen (p := ⟨b, 0, none⟩) h.lt hs).trans h.2⟩
/-- What a draw of a sum leaves. -/
def RetD2 (TM TI : TypeId) (w : World) (r : Nat) (A : Option Addr) (k m : Nat) (bs : List Int) (c' : Nat) (e : Ending) (w' : World) : Prop :=
  ∃ A' k' ms d, e = .returned (.agg #[.slice A' ms.length k']) ∧ GPN 200 TM TI w' w.heap.size A' k' ms ∧ d ≤ c' ∧ Rd w' r A k m bs d ∧ Upd (fun b => b = r) w w'
def RetD (TM TI : TypeId) (w : World) (r : Nat) (A : Option Addr) (k m : Nat) (bs : List Int) (c' : Nat) (e : Ending) (w' : World) : Prop :=
  ∃ A' k' ms d, e = .returned (.agg #[.slice A' ms.length k']) ∧ GP TM TI w' w.heap.size A' k' ms ∧ d ≤ c' ∧ Rd w' r A k m bs d ∧ Upd (fun b => b = r) w w'
theorem GPN.lit {TM TI : TypeId} (w : World) (c : Int) (B : Option Addr) (k : Nat) (xs : List Int) {lo : Nat} (hJ : RJ TI w ⟨c, B, k, xs⟩) (hB : ∀ b, atB B b → lo ≤ b) (hx : xs.length ≤ 100) (hl : lo ≤ w.heap.size) : GP TM TI (w.alloc (.cells #[.int .i64 c, .slice B xs.length k] TM)) lo (some ⟨w.heap.size, 0, none⟩) 1 [⟨c, B, k, xs⟩] := by
  refine ⟨⟨⟨rfl, .inr ⟨w.heap.size, 1, _, rfl, hl, heap_alloc_new w _, Nat.le_refl _, by unfold maxLen; omega, rfl, rfl⟩⟩, fun m hm => ?_⟩, fun m hm b hb => ?_, by simp, fun m hm => ?_⟩
  · rw [List.mem_singleton.1 hm]
    exact hJ.ext ((Ext.refl w).alloc _)
  · rw [List.mem_singleton.1 hm] at hb
    exact hB b hb
  · rw [List.mem_singleton.1 hm]
    exact hx
theorem GPN.two {TM TI : TypeId} (w : World) (c d : Int) {lo : Nat} (hl : lo ≤ w.heap.size) : GP TM TI (w.alloc (.cells #[.int .i64 c, .slice none 0 0, .int .i64 d, .slice none 0 0] TM)) lo (some ⟨w.heap.size, 0, none⟩) 2 [⟨c, none, 0, []⟩, ⟨d, none, 0, []⟩] := by
  have hm2 : ∀ m ∈ [(⟨c, none, 0, []⟩ : Mn), ⟨d, none, 0, []⟩], m.A = none ∧ m.k = 0 ∧ m.xs = [] := by simp
  refine ⟨⟨⟨rfl, .inr ⟨w.heap.size, 2, _, rfl, hl, heap_alloc_new w _, Nat.le_refl _, by unfold maxLen; omega, rfl, rfl⟩⟩, fun m hm => ?_⟩, fun m hm b hb => ?_, by simp, fun m hm => ?_⟩
  · obtain ⟨h1, h2, h3⟩ := hm2 m hm
    unfold RJ
    rw [h1, h2, h3]
    exact ⟨RI.nil _ _ _, fun _ => rfl, Nat.le_refl _⟩
  · obtain ⟨h1, _⟩ := hm2 m hm
    rw [h1] at hb
    obtain ⟨_, _, e⟩ := hb
    cases e
  · rw [(hm2 m hm).2.2]
    simp
/-- Atoms in a row that was just laid. -/
theorem RJ.lit {TI : TypeId} (w : World) (c : Int) (xs : List Int) : RJ TI (w.alloc (.cells (xs.map (Value.int .i64)).toArray TI)) ⟨c, some ⟨w.heap.size, 0, none⟩, xs.length, xs⟩ := ⟨Row.new _ _ _, (fun e => by cases e), Nat.le_refl _⟩
theorem GPN.snoc {N : Nat} {TM TI : TypeId} {w w' : World} {lo k : Nat} {A A' : Option Addr} {k' : Nat} {ms : List Mn} {m : Mn} (h : GPN N TM TI w lo A k ms) (h' : LM TM TI w' lo A' k' (ms ++ [m])) (hm : ∀ b, atB m.A b → lo ≤ b) (hx : m.xs.length ≤ 100) : GPN (N + 1) TM TI w' lo A' k' (ms ++ [m]) :=
  ⟨h', fun x hx b hb => by
    rcases List.mem_append.1 hx with hx | hx
    · exact h.at_ x hx b hb
    · rw [List.mem_singleton.1 hx] at hb
      exact hm b hb, by have := h.sz.1; simp; omega, fun x hx' => by
    rcases List.mem_append.1 hx' with hx' | hx'
    · exact h.sz.2 x hx'
    · rw [List.mem_singleton.1 hx']
      exact hx⟩
theorem AB.upd' {w w' : World} {A : Option Addr} {bs : List Int} {r : Nat} (h : AB w A bs) (hl : bs ≠ [] → ∀ b o, A = some ⟨b, o, none⟩ → b < r) (he : Upd (fun b => r < b) w w') : AB w' A bs :=
  ⟨fun hn => by
    obtain ⟨b, o, h1, h2⟩ := h.1 hn
    exact ⟨b, o, h1, fun j u hu => (he.cell (World.block_lt_of_cell? _ _ (h2 j u hu)) (fun e => by have h3 := hl (by rintro rfl; exact hn rfl) b o h1; have h4 : r < b := e; omega)).trans (h2 j u hu)⟩, h.2⟩
theorem Rd.upd {w w' : World} {r : Nat} {A : Option Addr} {k n : Nat} {bs : List Int} {c : Nat} (h : Rd w r A k n bs c) (he : Upd (fun b => r < b) w w') : Rd w' r A k n bs c :=
  ⟨(he.cell (p := ⟨r, 0, none⟩) h.size (fun e => Nat.lt_irrefl r e)).trans h.b, (he.cell (p := ⟨r, 1, none⟩) h.size (fun e => Nat.lt_irrefl r e)).trans h.p, (he.frozen (p := ⟨r, 1, none⟩) h.size (fun e => Nat.lt_irrefl r e)).trans h.f, h.ab.upd' h.lt he, h.lt, h.n_le, h.n_lt⟩
theorem Upd.far {S S' : Nat → Prop} {w a b : World} (h : Upd S w a) (k : Upd S' a b) (hs : ∀ i, S' i → w.heap.size ≤ i) : Upd S w b :=
  ⟨k.os.trans h.os, k.tape.trans h.tape, k.output.trans h.output, Nat.le_trans h.size k.size, fun i hi hn => (k.block i (Nat.lt_of_lt_of_le hi h.size) (fun e => by have := hs i e; omega)).trans (h.block i hi hn)⟩
theorem RJ.none_ {TI : TypeId} (w : World) (c : Int) : RJ TI w ⟨c, none, 0, []⟩ := ⟨RI.nil _ _ _, fun _ => rfl, Nat.le_refl _⟩
end Go.Proofs.Ytcgelcaepkakaaa
