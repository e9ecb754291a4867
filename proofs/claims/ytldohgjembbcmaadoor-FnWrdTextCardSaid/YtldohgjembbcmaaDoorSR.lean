/- The reference's draws of a number and of a text. Conditions: fewer than 2^40 bytes drawn. -/
import Derived.Test.YtldohgjembbcmaaDoorSQ
import Derived.Test.YtldohgjembbcmaaDoorD
import Derived.Test.YtldohgjembbcmaaDoorJ
namespace Go.Proofs.YtldohgjembbcmaaDoor
open Go Go.RowKit Go.Lib
set_option linter.unusedVariables false
set_option linter.unusedSimpArgs false

theorem drawText (A : Option Addr) (k : Nat) (bs : List Int) (w : World) (h : AB w A bs) (hn : bs.length ≤ 9223372036854775807) (hk : bs.length ≤ k) :
    Calls Tryd.prog 10 #[.slice A bs.length k] w fun e w' => ∃ v : Int, e = .returned (.int .i64 v) ∧ I64 v ∧ Ext w w' := by
  go_enter Tryd.func10, Tryd.ntmps10
  go_wp2_with fail
  refine (open_ _ _ _ _ (h.ext (by repeat (first | with_reducible assumption | with_reducible exact Ext.refl _ | with_reducible apply Ext.drewN | with_reducible apply Ext.drew | with_reducible apply Ext.alloc | with_reducible refine Ext.set ?_ (by first | (simp; done) | (simp; omega)) _ | with_reducible refine Ext.next ?_ (by with_reducible assumption)))) hn hk).mono ?_
  rintro e w1 ⟨r, A', k', m, rfl, hR, hr, hw1⟩
  have E1 : Ext w w1 := (by repeat (first | with_reducible assumption | with_reducible exact Ext.refl _ | with_reducible apply Ext.drewN | with_reducible apply Ext.drew | with_reducible apply Ext.alloc | with_reducible refine Ext.set ?_ (by first | (simp; done) | (simp; omega)) _ | with_reducible refine Ext.next ?_ (by with_reducible assumption)))
  go_wp2_with fail
  refine (wordOr _ _ _ _ _ _ _ _ hR (by omega)).mono ?_
  rintro e w2 ⟨v, d2, rfl, hv, hd2, R2, U2⟩
  have HE : Hid (Ext w w2) := hid (((Upd.of_ext E1).next U2).ext fun b hb => by have e : b = r := hb; omega)
  clear U2
  go_wp2
  go_ret
  exact ⟨v, rfl, hv, HE.out⟩

theorem conv_byte (w : World) (g x : Nat) (hx : x < 256) (hc : w.cell? ⟨g, 0, none⟩ = some (.int .u8 (x : Int))) :
    (convert 27 9 (.slice (some ⟨g, 0, none⟩) 1 1)).run Tryd.prog w = .ok (.string ⟨#[UInt8.ofNat x]⟩) w := by
  have := run_convert_bytes_back w 27 9 5 ⟨g, 0, none⟩ 1 [UInt8.ofNat x] Tryd.underlying27 Tryd.underlying5 Tryd.underlying9 fun j hj => by
    obtain rfl : j = 0 := by simpa using hj
    show w.cell? ((⟨g, 0, none⟩ : Addr).add 0) = some (.int .u8 ((UInt8.ofNat x).toNat : Int))
    rw [show (⟨g, 0, none⟩ : Addr).add 0 = ⟨g, 0, none⟩ from rfl, show ((UInt8.ofNat x).toNat : Int) = x by simp; omega]
    exact hc
  exact this
/-- What a draw of a text leaves: some bytes less. -/
def RetT (N : Nat) (w : World) (r : Nat) (A : Option Addr) (k m : Nat) (bs : List Int) (c' : Nat) (e : Ending) (w' : World) : Prop :=
  ∃ (X : ByteArray) (d : Nat), e = .returned (.string X) ∧ X.size ≤ N ∧ d ≤ c' ∧ Rd w' r A k m bs d ∧ Upd (fun b => b = r) w w'

set_option maxHeartbeats 1000000 in
theorem bent (r : Nat) (A : Option Addr) (k m : Nat) (bs : List Int) (c : Nat) (s : ByteArray) (w : World) (h : Rd w r A k m bs c) (hs : s.size ≤ 100) (hc : c + 4 < 1099511627776) :
    Calls Tryd.prog 22 #[.pointer (some ⟨r, 0, none⟩), .string s] w (RetT 202 w r A k m bs (c + 4)) := by
  have hrs := h.size
  go_enter Tryd.func22, Tryd.ntmps22
  go_wp2_with fail
  refine (pick _ _ _ _ _ _ _ _ h (by omega)).mono ?_
  rintro e w1 ⟨u, rfl, hu0, hu1, R1, U1⟩
  have hu2 := hu1 (by omega)
  obtain ⟨i, rfl⟩ : ∃ i : Nat, u = i := ⟨u.toNat, by omega⟩
  have hi : i ≤ s.size := by omega
  clear hu1 hu2 hu0
  go_wp2_with fail
  refine (pick _ _ _ _ _ _ _ _ R1 (by omega)).mono ?_
  rintro e w2 ⟨v, rfl, hv0, hv1, R2, U2⟩
  have hv2 := hv1 (by omega)
  have hr2 := R2.size
  clear hv1
  go_wp2_with fail
  refine (pick _ _ _ _ _ _ _ _ (R2.ext (by repeat (first | with_reducible assumption | with_reducible exact Ext.refl _ | with_reducible apply Ext.drewN | with_reducible apply Ext.drew | with_reducible apply Ext.alloc | with_reducible refine Ext.set ?_ (by first | (simp; done) | (simp; omega)) _ | with_reducible refine Ext.next ?_ (by with_reducible assumption)))) (by omega)).mono ?_
  rintro e w3 ⟨y, rfl, hy0, hy1, R3, U3⟩
  have hy2 := hy1 (by omega)
  have hs3 := U3.size
  obtain ⟨yn, rfl⟩ : ∃ yn : Nat, y = yn := ⟨y.toNat, by omega⟩
  obtain ⟨x, ⟨hx0, hx1⟩, hxL⟩ := lit_pick [32, 48, 49, 57, 97, 101, v] (fun v => 0 ≤ v ∧ v ≤ 255) (by simp; omega) (i := yn) (show yn < 7 by omega)
  have hxc := (U3.cell (p := ⟨w2.heap.size, yn, none⟩) (by simp) (by simp only; omega)).trans (lit_cell w2 3 hxL)
  have hl2 := World.block_lt_of_cell? _ _ hxc
  simp only at hl2
  have HU3 : Hid (Upd (fun b => b = r) w w3) := hid ((U1.next U2).next ((Upd.of_ext (by repeat (first | with_reducible assumption | with_reducible exact Ext.refl _ | with_reducible apply Ext.drewN | with_reducible apply Ext.drew | with_reducible apply Ext.alloc | with_reducible refine Ext.set ?_ (by first | (simp; done) | (simp; omega)) _ | with_reducible refine Ext.next ?_ (by with_reducible assumption)))).next U3))
  have hr3 := R3.size
  obtain ⟨xn, rfl⟩ : ∃ xn : Nat, x = xn := ⟨x.toNat, by omega⟩
  have hx2 : xn < 256 := by omega
  obtain ⟨cb, hcb⟩ : ∃ cb : ByteArray, (⟨#[UInt8.ofNat xn]⟩ : ByteArray) = cb := ⟨_, rfl⟩
  have hcs : cb.size = 1 := by rw [← hcb]; rfl
  have hconv := conv_byte (w3.alloc (.cells #[.int .u8 (xn : Int)] 5)) w3.heap.size xn hx2 (by go_simp)
  rw [hcb] at hconv
  clear U1 U2 U3 R1 R2 hxL hcb hy1
  go_wp2_with fail
  refine (pick _ _ _ _ _ _ _ _ (R3.ext (by repeat (first | with_reducible assumption | with_reducible exact Ext.refl _ | with_reducible apply Ext.drewN | with_reducible apply Ext.drew | with_reducible apply Ext.alloc | with_reducible refine Ext.set ?_ (by first | (simp; done) | (simp; omega)) _ | with_reducible refine Ext.next ?_ (by with_reducible assumption)))) (by omega)).mono ?_
  rintro e w4 ⟨z, rfl, hz0, hz1, R4, U4⟩
  have HR := hid R4
  have HU : Hid (Upd (fun b => b = r) w w4) := hid (HU3.out.next ((Upd.of_ext (by repeat (first | with_reducible assumption | with_reducible exact Ext.refl _ | with_reducible apply Ext.drewN | with_reducible apply Ext.drew | with_reducible apply Ext.alloc | with_reducible refine Ext.set ?_ (by first | (simp; done) | (simp; omega)) _ | with_reducible refine Ext.next ?_ (by with_reducible assumption)))).next U4))
  clear U4 R4 R3 hz1 hconv HU3
  by_cases h0 : z = 0
  · subst h0
    have hsz : (s.extract 0 i ++ cb ++ s.extract i s.size).size ≤ 202 := by simp only [ByteArray.size_append, ByteArray.size_extract]; omega
    go_wp2
    refine wp_region_over (by kernel_rfl) (by kernel_rfl) ?_
    repeat (go_big_quiet_step (fail))
    refine wpQuiet_nil ?_
    rintro wq ⟨⟨_, hwq⟩, rfl⟩
    have HR2 := hid (HR.out.ext hwq)
    have HU2 := hid (HU.out.next (.of_ext hwq))
    go_wp2
    go_ret
    exact ⟨_, c + 4, rfl, hsz, by omega, HR2.out, HU2.out⟩
  have b0 : (z == 0) = false := by rw [beq_eq_false_iff_ne]; exact h0
  by_cases hlt : i < s.size
  · by_cases h1 : z = 1
    · subst h1
      have hsz : (s.extract 0 i ++ s.extract (i + 1) s.size).size ≤ 202 := by simp only [ByteArray.size_append, ByteArray.size_extract]; omega
      go_wp2
      refine wp_region_over (by kernel_rfl) (by kernel_rfl) ?_
      repeat (go_big_quiet_step (fail))
      refine wpQuiet_nil ?_
      rintro wq ⟨⟨_, hwq⟩, rfl⟩
      have HR2 := hid (HR.out.ext hwq)
      have HU2 := hid (HU.out.next (.of_ext hwq))
      go_wp2
      go_ret
      exact ⟨_, c + 4, rfl, hsz, by omega, HR2.out, HU2.out⟩
    have b1 : (z == 1) = false := by rw [beq_eq_false_iff_ne]; exact h1
    have hsz : (s.extract 0 i ++ cb ++ s.extract (i + 1) s.size).size ≤ 202 := by simp only [ByteArray.size_append, ByteArray.size_extract]; omega
    go_wp2
    refine wp_region_over (by kernel_rfl) (by kernel_rfl) ?_
    repeat (go_big_quiet_step (fail))
    refine wpQuiet_nil ?_
    rintro wq ⟨⟨_, hwq⟩, rfl⟩
    have HR2 := hid (HR.out.ext hwq)
    have HU2 := hid (HU.out.next (.of_ext hwq))
    go_wp2
    go_ret
    exact ⟨_, c + 4, rfl, hsz, by omega, HR2.out, HU2.out⟩
  · by_cases h1 : z = 1
    · subst h1
      go_wp2
      go_ret
      exact ⟨_, c + 4, rfl, by omega, by omega, HR.out, HU.out⟩
    have b1 : (z == 1) = false := by rw [beq_eq_false_iff_ne]; exact h1
    go_wp2
    go_ret
    exact ⟨_, c + 4, rfl, by omega, by omega, HR.out, HU.out⟩

def textsL : List (List UInt8) := [[], [48, 48], [54, 53, 53, 51, 54], [57, 57, 57, 57, 57], [45, 49], [49, 32], [48, 54, 53]]
theorem lit_text (w : World) (T : TypeId) {i : Nat} (hi : i < 7) : ∃ X : ByteArray, X.size ≤ 5 ∧ (w.alloc (.cells (textsL.map fun l => Value.string ⟨l.toArray⟩).toArray T)).cell? ⟨w.heap.size, i, none⟩ = some (.string X) := by
  have hl : i < textsL.length := hi
  refine ⟨⟨(textsL[i]).toArray⟩, ?_, ?_⟩
  · have : ∀ l ∈ textsL, (ByteArray.mk l.toArray).size ≤ 5 := by
      intro l hl
      have h2 : ∀ l ∈ textsL, l.length ≤ 5 := by decide
      have := h2 l hl
      show l.toArray.size ≤ 5
      simpa using this
    exact this _ (List.getElem_mem hl)
  · rw [cell_of_row _ _ _ _ T (0, 0) (heap_alloc_new w _), List.getElem?_toArray, List.getElem?_map, List.getElem?_eq_getElem hl]
    rfl
theorem drawRead (A : Option Addr) (k : Nat) (bs : List Int) (w : World) (h : AB w A bs) (hn : bs.length ≤ 9223372036854775807) (hk : bs.length ≤ k) :
    Calls Tryd.prog 11 #[.slice A bs.length k] w fun e w' => ∃ X : ByteArray, e = .returned (.string X) ∧ X.size ≤ 202 ∧ Ext w w' := by
  go_enter Tryd.func11, Tryd.ntmps11
  go_wp2_with fail
  refine (open_ _ _ _ _ (h.ext (by repeat (first | with_reducible assumption | with_reducible exact Ext.refl _ | with_reducible apply Ext.drewN | with_reducible apply Ext.drew | with_reducible apply Ext.alloc | with_reducible refine Ext.set ?_ (by first | (simp; done) | (simp; omega)) _ | with_reducible refine Ext.next ?_ (by with_reducible assumption)))) hn hk).mono ?_
  rintro e w1 ⟨r, A', k', m, rfl, hR, hr, hw1⟩
  have E1 : Ext w w1 := (by repeat (first | with_reducible assumption | with_reducible exact Ext.refl _ | with_reducible apply Ext.drewN | with_reducible apply Ext.drew | with_reducible apply Ext.alloc | with_reducible refine Ext.set ?_ (by first | (simp; done) | (simp; omega)) _ | with_reducible refine Ext.next ?_ (by with_reducible assumption)))
  have hrs := hR.size
  clear hw1
  go_wp2_with fail
  refine (word _ _ _ _ _ _ _ hR (by omega)).mono ?_
  rintro e w2 ⟨v, d2, rfl, ⟨hv0, hv1⟩, hd2, R2, U2⟩
  obtain ⟨X, hX⟩ : ∃ X : ByteArray, (⟨(wrdText v).toArray⟩ : ByteArray) = X := ⟨_, rfl⟩
  have hXs : X.size ≤ 100 := by
    rw [← hX]
    show (wrdText v).toArray.size ≤ 100
    have : (wrdText v).length ≤ 5 := by
      unfold wrdText
      split
      · exact (dec_length (by omega)).2
      · simp
    simp
    omega
  have HX := hid hX
  clear hX
  go_wp2_with fail
  refine (specWrdText _ _).mono ?_
  rintro e w3 ⟨rfl, hw3⟩
  rw [HX.out]
  have HU3 := hid (((Upd.of_ext (S := fun b => b = r) E1).next U2).next (.of_ext hw3))
  go_wp2_with fail
  refine (pick _ _ _ _ _ _ _ _ (R2.ext (by repeat (first | with_reducible assumption | with_reducible exact Ext.refl _ | with_reducible apply Ext.drewN | with_reducible apply Ext.drew | with_reducible apply Ext.alloc | with_reducible refine Ext.set ?_ (by first | (simp; done) | (simp; omega)) _ | with_reducible refine Ext.next ?_ (by with_reducible assumption)))) (by omega)).mono ?_
  rintro e w4 ⟨z, rfl, hz0, hz1, R4, U4⟩
  have HU4 := hid (HU3.out.next U4)
  have hr4 := R4.size
  clear U2 U4 hz1 R2 E1 HU3 hw3
  by_cases h0 : z = 0
  · subst h0
    go_wp2_with fail
    refine (pick _ _ _ _ _ _ _ _ (R4.ext (by repeat (first | with_reducible assumption | with_reducible exact Ext.refl _ | with_reducible apply Ext.drewN | with_reducible apply Ext.drew | with_reducible apply Ext.alloc | with_reducible refine Ext.set ?_ (by first | (simp; done) | (simp; omega)) _ | with_reducible refine Ext.next ?_ (by with_reducible assumption)))) (by omega)).mono ?_
    rintro e w5 ⟨y, rfl, hy0, hy1, R5, U5⟩
    have hy2 := hy1 (by omega)
    have hs5 := U5.size
    obtain ⟨yn, rfl⟩ : ∃ yn : Nat, y = yn := ⟨y.toNat, by omega⟩
    obtain ⟨Y, hY, hc⟩ := lit_text w4 9 (i := yn) (by omega)
    have hxc := (U5.cell (p := ⟨w4.heap.size, yn, none⟩) (by simp) (by simp only; omega)).trans hc
    have hl2 := World.block_lt_of_cell? _ _ hxc
    simp only at hl2
    have HE : Hid (Ext w w5) := hid ((HU4.out.next ((Upd.of_ext (by repeat (first | with_reducible assumption | with_reducible exact Ext.refl _ | with_reducible apply Ext.drewN | with_reducible apply Ext.drew | with_reducible apply Ext.alloc | with_reducible refine Ext.set ?_ (by first | (simp; done) | (simp; omega)) _ | with_reducible refine Ext.next ?_ (by with_reducible assumption)))).next U5)).ext fun b hb => by have e : b = r := hb; omega)
    clear U5 hc hy1
    go_wp2
    go_ret
    exact ⟨Y, rfl, by omega, HE.out⟩
  have b0 : (z == 0) = false := by rw [beq_eq_false_iff_ne]; exact h0
  by_cases h1 : z = 1
  · subst h1
    go_wp2_with fail
    refine (bent _ _ _ _ _ _ X _ (R4.ext (by repeat (first | with_reducible assumption | with_reducible exact Ext.refl _ | with_reducible apply Ext.drewN | with_reducible apply Ext.drew | with_reducible apply Ext.alloc | with_reducible refine Ext.set ?_ (by first | (simp; done) | (simp; omega)) _ | with_reducible refine Ext.next ?_ (by with_reducible assumption)))) hXs (by omega)).mono ?_
    rintro e w5 ⟨Y, d5, rfl, hY, hd5, R5, U5⟩
    have HE : Hid (Ext w w5) := hid ((HU4.out.next U5).ext fun b hb => by have e : b = r := hb; omega)
    clear U5
    go_wp2
    go_ret
    exact ⟨Y, rfl, hY, HE.out⟩
  have b1 : (z == 1) = false := by rw [beq_eq_false_iff_ne]; exact h1
  have HE : Hid (Ext w w4) := hid (HU4.out.ext fun b hb => by have e : b = r := hb; omega)
  clear HU4
  go_wp2
  go_ret
  exact ⟨X, rfl, by omega, HE.out⟩
end Go.Proofs.YtldohgjembbcmaaDoor
