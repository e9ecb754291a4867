/- Contracts of the reference's draws: what is drawn is in bounds. Conditions: fewer than 2^40 bytes drawn. -/
import Derived.Test.YtpmipopeoiojjaaDoorM
import Derived.Test.YtpmipopeoiojjaaDoorW
namespace Go.Proofs.YtpmipopeoiojjaaDoor
open Go Go.RowKit
set_option linter.unusedVariables false
set_option linter.unusedSimpArgs false

theorem AB.lt_ {w : World} {A : Option Addr} {bs : List Int} (h : AB w A bs) (hn : bs ≠ []) {b o : Nat} (e : A = some ⟨b, o, none⟩) : b < w.heap.size := by
  obtain ⟨b', o', x, e', hb, _⟩ := h.at_ (i := 0) (List.length_pos_iff.2 hn)
  rw [e] at e'
  injection e' with e'
  injection e' with e' _ _
  omega
/-- A reader at r, of bytes that lie below it; c bytes are drawn. -/
structure Rd (w : World) (r : Nat) (A : Option Addr) (k n : Nat) (bs : List Int) (c : Nat) : Prop where
  b : w.cell? ⟨r, 0, none⟩ = some (.slice A n k)
  p : w.cell? ⟨r, 1, none⟩ = some (.int .i64 c)
  f : w.frozen? ⟨r, 1, none⟩ = false
  ab : AB w A bs
  lt : bs ≠ [] → ∀ b o, A = some ⟨b, o, none⟩ → b < r
  n_le : n ≤ bs.length
  n_lt : n ≤ 2000
theorem Rd.size {w : World} {r : Nat} {A : Option Addr} {k n : Nat} {bs : List Int} {c : Nat} (h : Rd w r A k n bs c) : r < w.heap.size := World.block_lt_of_cell? _ _ h.b
theorem Rd.ext {w w' : World} {r : Nat} {A : Option Addr} {k n : Nat} {bs : List Int} {c : Nat} (h : Rd w r A k n bs c) (he : Ext w w') : Rd w' r A k n bs c :=
  ⟨keep he h.b, keep he h.p, keepf he h.p h.f, h.ab.ext he, h.lt, h.n_le, h.n_lt⟩
theorem AB.upd {w w' : World} {A : Option Addr} {bs : List Int} {r : Nat} (h : AB w A bs) (hl : bs ≠ [] → ∀ b o, A = some ⟨b, o, none⟩ → b < r) (he : Upd (fun b => b = r) w w') : AB w' A bs :=
  ⟨fun hn => by
    obtain ⟨b, o, h1, h2⟩ := h.1 hn
    exact ⟨b, o, h1, fun j u hu => (he.cell (World.block_lt_of_cell? _ _ (h2 j u hu)) (fun e => by have := hl (by rintro rfl; exact hn rfl) b o h1; simp only at e; omega)).trans (h2 j u hu)⟩, h.2⟩

theorem tmod_at {x n : Nat} (h : 0 < n) : Int.tmod (x : Int) (n : Int) = ((x % n : Nat) : Int) := by
  rw [Int.tmod_eq_emod_of_nonneg (by omega)]
  rfl
theorem tdiv_at {x n : Nat} : Int.tdiv (x : Int) (n : Int) = ((x / n : Nat) : Int) := rfl
theorem xor_nat (a b : Nat) (ha : a < 2 ^ 62) (hb : b < 2 ^ 62) : bits .xor .i64 (a : Int) (b : Int) = ((a ^^^ b : Nat) : Int) ∧ a ^^^ b < 2 ^ 62 := by
  have hx : a ^^^ b < 2 ^ 62 := Nat.xor_lt_two_pow ha hb
  refine ⟨?_, hx⟩
  show IntKind.i64.wrap ((BitVec.ofInt 64 a ^^^ BitVec.ofInt 64 b).toNat : Int) = _
  rw [BitVec.toNat_xor, BitVec.toNat_ofInt, BitVec.toNat_ofInt, IntKind.wrap_i64]
  have h1 : ((a : Int) % ((2 ^ 64 : Nat) : Int)).toNat = a := by omega
  have h2 : ((b : Int) % ((2 ^ 64 : Nat) : Int)).toNat = b := by omega
  rw [h1, h2]
  omega

/-- What a draw leaves: a number in bounds, and one byte less. -/
def RetPick (w : World) (r : Nat) (A : Option Addr) (k m : Nat) (bs : List Int) (c : Nat) (n : Int) (e : Ending) (w' : World) : Prop :=
  ∃ v : Int, e = .returned (.int .i64 v) ∧ 0 ≤ v ∧ (1 ≤ n → v < n) ∧ Rd w' r A k m bs (c + 1) ∧ Upd (fun b => b = r) w w'







theorem lit_pick (L : List Int) (φ : Int → Prop) (h : ∀ x ∈ L, φ x) {i : Nat} (hi : i < L.length) : ∃ x, φ x ∧ L[i]? = some x := ⟨L[i], h _ (List.getElem_mem hi), List.getElem?_eq_getElem hi⟩
theorem lit_cell (w : World) (T : TypeId) {L : List Int} {i : Nat} {x : Int} (h : L[i]? = some x) : (w.alloc (.cells (L.map (Value.int .i64)).toArray T)).cell? ⟨w.heap.size, i, none⟩ = some (.int .i64 x) := by
  rw [cell_of_row _ _ _ _ T (0, 0) (heap_alloc_new w _), List.getElem?_toArray, List.getElem?_map, h]
  rfl
/-- What a draw of a number leaves: some bytes less. -/
def RetV (φ : Int → Prop) (w : World) (r : Nat) (A : Option Addr) (k m : Nat) (bs : List Int) (c c' : Nat) (e : Ending) (w' : World) : Prop :=
  ∃ (v : Int) (d : Nat), e = .returned (.int .i64 v) ∧ φ v ∧ d ≤ c' ∧ Rd w' r A k m bs d ∧ Upd (fun b => b = r) w w'





