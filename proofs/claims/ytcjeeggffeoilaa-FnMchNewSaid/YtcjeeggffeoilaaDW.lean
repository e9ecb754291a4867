/- The reference's draw of words. Conditions: fewer than 2^40 bytes drawn. -/
import Derived.Test.YtcjeeggffeoilaaJ
import Derived.Test.YtcjeeggffeoilaaA
import Derived.Test.YtcjeeggffeoilaaU
namespace Go.Proofs.Ytcjeeggffeoilaa
open Go Go.RowKit
set_option linter.unusedVariables false
set_option linter.unusedSimpArgs false

theorem AB.upd2 {w w' : World} {A : Option Addr} {bs : List Int} {r : Nat} (h : AB w A bs) (hl : bs ≠ [] → ∀ b o, A = some ⟨b, o, none⟩ → b < r) (he : Upd (fun b => r < b) w w') : AB w' A bs :=
  ⟨fun hn => by
    obtain ⟨b, o, h1, h2⟩ := h.1 hn
    exact ⟨b, o, h1, fun j u hu => (he.cell (World.block_lt_of_cell? _ _ (h2 j u hu)) (fun e => by have h3 := hl (by rintro rfl; exact hn rfl) b o h1; have h4 : r < b := e; omega)).trans (h2 j u hu)⟩, h.2⟩
theorem Rd.upd2 {w w' : World} {r : Nat} {A : Option Addr} {k n : Nat} {bs : List Int} {c : Nat} (h : Rd w r A k n bs c) (he : Upd (fun b => r < b) w w') : Rd w' r A k n bs c :=
  ⟨(he.cell (p := ⟨r, 0, none⟩) h.size (fun e => Nat.lt_irrefl r e)).trans h.b, (he.cell (p := ⟨r, 1, none⟩) h.size (fun e => Nat.lt_irrefl r e)).trans h.p, (he.frozen (p := ⟨r, 1, none⟩) h.size (fun e => Nat.lt_irrefl r e)).trans h.f, h.ab.upd2 h.lt he, h.lt, h.n_le, h.n_lt⟩
theorem Upd.far2 {S S' : Nat → Prop} {w a b : World} (h : Upd S w a) (k : Upd S' a b) (hs : ∀ i, S' i → w.heap.size ≤ i) : Upd S w b :=
  ⟨k.os.trans h.os, k.tape.trans h.tape, k.output.trans h.output, Nat.le_trans h.size k.size, fun i hi hn => (k.block i (Nat.lt_of_lt_of_le hi h.size) (fun e => by have := hs i e; omega)).trans (h.block i hi hn)⟩
/-- Words of a draw, in a row of its own. -/
def RetW (TI : TypeId) (N : Nat) (w : World) (r : Nat) (A : Option Addr) (k m : Nat) (bs : List Int) (c' : Nat) (e : Ending) (w' : World) : Prop :=
  ∃ A' k' xs d, e = .returned (.slice A' xs.length k') ∧ OI TI w' w.heap.size A' k' xs ∧ xs.length ≤ N ∧ (∀ x ∈ xs, 0 ≤ x ∧ x ≤ 65535) ∧ d ≤ c' ∧ Rd w' r A k m bs d ∧ Upd (fun b => b = r) w w'

theorem words20 (r : Nat) (A : Option Addr) (k m : Nat) (bs : List Int) (c : Nat) (n : Int) (N : Nat) (w : World) (h : Rd w r A k m bs c) (hN : n ≤ N) (hN' : N ≤ 1000) (hc : c + 4 * N + 10 < 1099511627776) :
    Calls Try.prog 25 #[.pointer (some ⟨r, 0, none⟩), .int .i64 n] w (RetW 3 N w r A k m bs (c + 4 * N)) := by
  have hrs := h.size
  go_enter Try.func25, Try.ntmps25
  go_wp2
  go_loopw [5, 6] (fun s i wr => ∃ (A' : Option Addr) (k' : Nat) (xs : List Int) (d : Nat), i = .int .i64 xs.length ∧ (xs.length : Int) ≤ max n 0 ∧ s = .slice A' xs.length k' ∧ OI 3 wr w.heap.size A' k' xs ∧ (∀ x ∈ xs, 0 ≤ x ∧ x ≤ 65535) ∧ d ≤ c + 4 * xs.length ∧ Rd wr r A k m bs d ∧ Upd (fun b => b = r) w wr) (fun _ i _ => (n - intOf i).toNat)
  case atStart => exact ⟨some ⟨w.heap.size, 0, none⟩, 0, [], c, rfl, by simp; omega, rfl, OI.made w (Nat.le_refl _), (fun _ h => by cases h), by omega, h.ext (by repeat (first | with_reducible assumption | with_reducible exact Ext.refl _ | with_reducible apply Ext.drewN | with_reducible apply Ext.drew | with_reducible apply Ext.alloc | with_reducible refine Ext.set ?_ (by first | (simp; done) | (simp; omega)) _ | with_reducible refine Ext.next ?_ (by with_reducible assumption))), .of_ext (by repeat (first | with_reducible assumption | with_reducible exact Ext.refl _ | with_reducible apply Ext.drewN | with_reducible apply Ext.drew | with_reducible apply Ext.alloc | with_reducible refine Ext.set ?_ (by first | (simp; done) | (simp; omega)) _ | with_reducible refine Ext.next ?_ (by with_reducible assumption)))⟩
  case round =>
    obtain ⟨A', k', xs, d, rfl, hj, rfl, ho, hw, hd, hR, hU⟩ := hrel
    by_cases hlt : (xs.length : Int) < n
    · have hjN : xs.length < N := by omega
      go_wp2_with fail
      refine (word _ _ _ _ _ _ _ hR (by omega)).mono ?_
      rintro e w1 ⟨v, d1, rfl, ⟨hv0, hv1⟩, hd1, hR1, hU1⟩
      have ho1 : OI 3 w1 w.heap.size A' k' xs := own_upd' ho hU1 fun b hb e => by have h1 := (own_atB ho hb).1; have h2 : b = r := e; omega
      have HW : Hid (∀ x ∈ xs ++ [v], 0 ≤ x ∧ x ≤ 65535) := hid fun x hx => by
        rcases List.mem_append.1 hx with hx | hx
        · exact hw x hx
        · rw [List.mem_singleton.1 hx]
          exact ⟨hv0, hv1⟩
      have HO := hid ho1
      have HR := hid hR1
      have HU := hid (hU.next hU1)
      have hwz := hU.size
      have hwz1 := hU1.size
      clear ho hR hU hw ho1 hR1 hU1
      go_wp2_with (at_builtin; (refine app_int Try.underlying23 info_int rfl _ _ rfl w.heap.size A' k' xs (HO.out.ext (by repeat (first | with_reducible assumption | with_reducible exact Ext.refl _ | with_reducible apply Ext.drewN | with_reducible apply Ext.drew | with_reducible apply Ext.alloc | with_reducible refine Ext.set ?_ (by first | (simp; done) | (simp; omega)) _ | with_reducible refine Ext.next ?_ (by with_reducible assumption)))) xs.length rfl rfl v ⟨w1.heap.size, 0, none⟩ 1 rfl (by rw [addr_add]; go_simp) (by omega) (by simp; omega) ?_); (intro A5 k5 w5 ho5 hu5); (have HO5 := hid ho5); (have HR5 := hid ((HR.out.ext (by repeat (first | with_reducible assumption | with_reducible exact Ext.refl _ | with_reducible apply Ext.drewN | with_reducible apply Ext.drew | with_reducible apply Ext.alloc | with_reducible refine Ext.set ?_ (by first | (simp; done) | (simp; omega)) _ | with_reducible refine Ext.next ?_ (by with_reducible assumption)))).upd2 (hu5.mono fun b _ hb => by have := (own_atB HO.out hb).1; omega))); (have HU5 := hid ((HU.out.next (.of_ext (by repeat (first | with_reducible assumption | with_reducible exact Ext.refl _ | with_reducible apply Ext.drewN | with_reducible apply Ext.drew | with_reducible apply Ext.alloc | with_reducible refine Ext.set ?_ (by first | (simp; done) | (simp; omega)) _ | with_reducible refine Ext.next ?_ (by with_reducible assumption))))).far2 hu5 fun b hb => (own_atB HO.out hb).1)); clear ho5 hu5)
      go_roundw
      case rel => exact ⟨A5, k5, xs ++ [v], d1, by rw [List.length_append]; go_num, by rw [List.length_append]; simp; omega, by rw [List.length_append]; rfl, HO5.out, HW.out, by rw [List.length_append]; simp; omega, HR5.out, HU5.out⟩
      case measure => simp [intOf]; omega
    · have HO := hid ho
      have HW := hid hw
      have HR := hid hR
      have HU := hid hU
      clear ho hw hR hU
      go_wp2
      go_ret
      exact ⟨A', k', xs, d, rfl, HO.out, by omega, HW.out, by omega, HR.out, HU.out⟩
end Go.Proofs.Ytcjeeggffeoilaa
