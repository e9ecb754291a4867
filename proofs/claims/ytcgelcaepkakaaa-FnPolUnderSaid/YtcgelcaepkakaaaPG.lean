/- The reference's draws for the laws of sums. Conditions: lengths that a machine can hold. -/
import Derived.Test.YtcgelcaepkakaaaPF
namespace Go.Proofs.Ytcgelcaepkakaaa
open Go Go.RowKit
set_option linter.unusedVariables false
set_option linter.unusedSimpArgs false

theorem drawScale (A : Option Addr) (k : Nat) (bs : List Int) (w : World) (h : AB w A bs) (hn : bs.length ≤ 9223372036854775807) (hk : bs.length ≤ k) :
    Calls Try.prog 22 #[.slice A bs.length k] w fun e w' => ∃ A' k' ms v, e = .returned (.tuple #[.agg #[.slice A' ms.length k'], .int .i64 v]) ∧ GPN 200 73 3 w' w.heap.size A' k' ms ∧ I64 v ∧ Ext w w' := by
  go_enter Try.func22, Try.ntmps22
  go_wp2_with fail
  refine (open_ _ _ _ _ (h.ext (by repeat (first | with_reducible assumption | with_reducible exact Ext.refl _ | with_reducible apply Ext.drewN | with_reducible apply Ext.drew | with_reducible apply Ext.alloc | with_reducible refine Ext.set ?_ (by first | (simp; done) | (simp; omega)) _ | with_reducible refine Ext.next ?_ (by with_reducible assumption)))) hn hk).mono ?_
  rintro e w1 ⟨r, A', k', m, rfl, hR, hr, hw1⟩
  have V1 : Var w1 w.heap.size (.slice none 0 0) := Var.ext ⟨by go_simp, by go_simp⟩ hw1
  have hr' : w.heap.size + 1 ≤ r := by simpa using hr
  have E1 : Ext w w1 := (by repeat (first | with_reducible assumption | with_reducible exact Ext.refl _ | with_reducible apply Ext.drewN | with_reducible apply Ext.drew | with_reducible apply Ext.alloc | with_reducible refine Ext.set ?_ (by first | (simp; done) | (simp; omega)) _ | with_reducible refine Ext.next ?_ (by with_reducible assumption)))
  have hrs := hR.size
  clear hr hw1
  go_wp2_with fail
  refine (polyOr21 _ _ _ _ _ _ _ _ hR (by omega)).mono ?_
  rintro e w2 ⟨A2, k2, ms2, d2, rfl, G2, hd2, R2, U2⟩
  have V2 := V1.upd U2 (fun hb => by have e : w.heap.size = r := hb; omega)
  go_wp2_with fail
  refine (wordOr _ _ _ _ _ _ _ _ R2 (by omega)).mono ?_
  rintro e w3 ⟨v, d, rfl, hv, hd, R3, U3⟩
  obtain ⟨v0, v1⟩ := V2.upd U3 (fun hb => by have e : w.heap.size = r := hb; omega)
  have hvl := World.block_lt_of_cell? _ _ v0
  simp only at hvl
  have HG := hid ((G2.upd U3 (fun b hb => by have e : b = r := hb; omega)).base (show w.heap.size + 1 ≤ w1.heap.size by omega))
  have HE : Hid (Ext w w3) := hid ((((Upd.of_ext E1).next U2).next U3).ext fun b hb => by have e : b = r := hb; omega)
  have HV := hid hv
  clear U2 U3 G2 V1 V2 E1 hv
  go_wp2
  have X := HE.out
  refine bodyPost_ret (v := .tuple #[.agg #[.slice A2 ms2.length k2], .int .i64 v]) (by simp [results, Try.results22, go_sem, *]) rfl ⟨A2, k2, ms2, v, rfl, (HG.out.upd (S := fun b => b < _) (by repeat (first | with_reducible assumption | with_reducible exact Upd.refl _ _ | with_reducible apply Upd.drewN | with_reducible apply Upd.drew | with_reducible apply Upd.alloc | with_reducible refine Upd.set ?_ (by first | (left; simp; done) | (left; simp; omega) | (right; simp; done) | (right; simp; omega) | (right; omega)) _ | with_reducible refine Upd.next ?_ (Upd.of_ext (by with_reducible assumption)))) (fun b hb => hb)).base (by omega), HV.out, (by repeat (first | with_reducible assumption | with_reducible exact Ext.refl _ | with_reducible apply Ext.drewN | with_reducible apply Ext.drew | with_reducible apply Ext.alloc | with_reducible refine Ext.set ?_ (by first | (simp; done) | (simp; omega)) _ | with_reducible refine Ext.next ?_ (by with_reducible assumption)))⟩
end Go.Proofs.Ytcgelcaepkakaaa
