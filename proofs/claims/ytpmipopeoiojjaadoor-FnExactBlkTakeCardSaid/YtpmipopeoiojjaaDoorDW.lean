/- The reference's draw of words. Conditions: fewer than 2^40 bytes drawn. -/
import Derived.Test.YtpmipopeoiojjaaDoorJ
import Derived.Test.YtpmipopeoiojjaaDoorA
import Derived.Test.YtpmipopeoiojjaaDoorU
namespace Go.Proofs.YtpmipopeoiojjaaDoor
open Go Go.RowKit
set_option linter.unusedVariables false
set_option linter.unusedSimpArgs false

theorem AB.upd2 {w w' : World} {A : Option Addr} {bs : List Int} {r : Nat} (h : AB w A bs) (hl : bs ≠ [] → ∀ b o, A = some ⟨b, o, none⟩ → b < r) (he : Upd (fun b => r < b) w w') : AB w' A bs :=
  ⟨fun hn => by
    obtain ⟨b, o, h1, h2⟩ := h.1 hn
    exact ⟨b, o, h1, fun j u hu => (he.cell (World.block_lt_of_cell? _ _ (h2 j u hu)) (fun e => by have h3 := hl (by rintro rfl; exact hn rfl) b o h1; have h4 : r < b := e; omega)).trans (h2 j u hu)⟩, h.2⟩
theorem Rd.upd2 {w w' : World} {r : Nat} {A : Option Addr} {k n : Nat} {bs : List Int} {c : Nat} (h : Rd w r A k n bs c) (he : Upd (fun b => r < b) w w') : Rd w' r A k n bs c :=
  ⟨(he.cell (p := ⟨r, 0, none⟩) h.size (fun e => Nat.lt_irrefl r e)).trans h.b, (he.cell (p := ⟨r, 1, none⟩) h.size (fun e => Nat.lt_irrefl r e)).trans h.p, (he.frozen (p := ⟨r, 1, none⟩) h.size (fun e => Nat.lt_irrefl r e)).trans h.f, h.ab.upd2 h.lt he, h.lt, h.n_le, h.n_lt⟩
theorem Upd.far2 {S S' : Nat → Prop} {w a b : World} (h : Upd S w a) (k : Upd S' a b) (hs : ∀ i, S' i → w.heap.size ≤ i) : Upd S w b :=
  ⟨k.os.trans h.os, k.tape.trans h.tape, k.output.trans h.output, Nat.le_trans h.size k.size, fun i hi hn => (k.block i (Nat.lt_of_lt_of_le hi h.size) (fun e => by have := hs i e; omega)).trans (h.block i hi hn)⟩
/-- Words of a draw, in a row of its own. -/
def RetW (TI : TypeId) (N : Nat) (w : World) (r : Nat) (A : Option Addr) (k m : Nat) (bs : List Int) (c' : Nat) (e : Ending) (w' : World) : Prop :=
  ∃ A' k' xs d, e = .returned (.slice A' xs.length k') ∧ OI TI w' w.heap.size A' k' xs ∧ xs.length ≤ N ∧ (∀ x ∈ xs, 0 ≤ x ∧ x ≤ 65535) ∧ d ≤ c' ∧ Rd w' r A k m bs d ∧ Upd (fun b => b = r) w w'

