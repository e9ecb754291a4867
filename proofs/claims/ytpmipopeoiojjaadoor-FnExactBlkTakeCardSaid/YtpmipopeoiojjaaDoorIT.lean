/- Contracts of taking an instruction out of a word. Conditions: the table of forms is laid. -/
import Derived.Test.YtpmipopeoiojjaaDoorIN
namespace Go.Proofs.YtpmipopeoiojjaaDoor
open Go Go.RowKit
set_option linter.unusedVariables false
set_option linter.unusedSimpArgs false

theorem and_three (n : Int) : bits BinOp.and IntKind.i64 n 3 = n % 4 := by
  show IntKind.i64.wrap ((BitVec.ofInt 64 n &&& BitVec.ofInt 64 3).toNat : Int) = _
  have h : (BitVec.ofInt 64 n &&& BitVec.ofInt 64 3).toNat = (n % 18446744073709551616).toNat % 4 := by
    rw [BitVec.toNat_and]
    have e : (BitVec.ofInt 64 3).toNat = 2 ^ 2 - 1 := by decide
    rw [e, Nat.and_two_pow_sub_one_eq_mod, BitVec.toNat_ofInt]
    rfl
  rw [h, IntKind.wrap_i64]
  omega
theorem and_byte (n : Int) : bits BinOp.and IntKind.i64 n 255 = n % 256 := by
  show IntKind.i64.wrap ((BitVec.ofInt 64 n &&& BitVec.ofInt 64 255).toNat : Int) = _
  have h : (BitVec.ofInt 64 n &&& BitVec.ofInt 64 255).toNat = (n % 18446744073709551616).toNat % 256 := by
    rw [BitVec.toNat_and]
    have e : (BitVec.ofInt 64 255).toNat = 2 ^ 8 - 1 := by decide
    rw [e, Nat.and_two_pow_sub_one_eq_mod, BitVec.toNat_ofInt]
    rfl
  rw [h, IntKind.wrap_i64]
  omega

/-- The parts of a word. -/
def tk (w : Int) : In4 := ⟨w / 4096, w / 1024 % 4, w / 256 % 4, w % 256⟩
def takeOk (w : Int) : Bool := wrdOk w && insOk (w / 4096) (w / 1024 % 4) (w / 256 % 4) (w % 256)
def insTake (w : Int) : In4 × Bool := if takeOk w then (tk w, true) else (⟨0, 0, 0, 0⟩, false)
def retTake (p : In4 × Bool) : Value := .tuple #[p.1.val, .bool p.2]
theorem insTake_no {w : Int} (h : takeOk w = false) : insTake w = (⟨0, 0, 0, 0⟩, false) := by unfold insTake; rw [h]; rfl
theorem insTake_yes {w : Int} (h : takeOk w = true) : insTake w = (tk w, true) := by unfold insTake; rw [h]; rfl

theorem implInsTake (x : Int) (w : World) (hF : LaidAt w) :
    Calls Tryd.prog 23 #[.int .i64 x] w fun e w' => e = .returned (retTake (insTake x)) ∧ Ext w w' := by
  cases ho : wrdOk x
  · have E := hid (insTake_no (w := x) (by unfold takeOk; rw [ho]; rfl))
    have HO := hid ho
    clear ho
    go_enter Tryd.func23, Tryd.ntmps23
    go_wp2_with fail
    refine (implWrdOk _ _).mono ?_
    rintro e w' ⟨rfl, rfl⟩
    rw [HO.out]
    go_wp2
    refine bodyPost_ret (v := .tuple #[.agg #[.int .i64 0, .int .i64 0, .int .i64 0, .int .i64 0], .bool false]) (by simp [results, Tryd.results23, go_sem, *]) rfl ⟨by rw [E.out]; rfl, (by repeat (first | with_reducible assumption | with_reducible exact Ext.refl _ | with_reducible apply Ext.drewN | with_reducible apply Ext.drew | with_reducible apply Ext.alloc | with_reducible refine Ext.set ?_ (by first | (simp; done) | (simp; omega)) _ | with_reducible refine Ext.next ?_ (by with_reducible assumption)))⟩
  · have HO := hid ho
    obtain ⟨n, rfl⟩ : ∃ n : Nat, x = n := ⟨x.toNat, by simp [wrdOk] at ho; omega⟩
    have hn : n < 65536 := by simp [wrdOk] at ho; omega
    cases hk : insOk ((n : Int) / 4096) ((n : Int) / 1024 % 4) ((n : Int) / 256 % 4) ((n : Int) % 256)
    · have E := hid (insTake_no (w := n) (by unfold takeOk; rw [hk, Bool.and_false]))
      have HK := hid hk
      clear ho hk
      go_enter Tryd.func23, Tryd.ntmps23
      go_wp2_with fail
      refine (implWrdOk _ _).mono ?_
      rintro e w' ⟨rfl, rfl⟩
      rw [HO.out]
      go_wp2_with fail
      try rw [and_three, and_three, and_byte]
      refine (implInsOk _ _ _ _ _ (hF.ext (by repeat (first | with_reducible assumption | with_reducible exact Ext.refl _ | with_reducible apply Ext.drewN | with_reducible apply Ext.drew | with_reducible apply Ext.alloc | with_reducible refine Ext.set ?_ (by first | (simp; done) | (simp; omega)) _ | with_reducible refine Ext.next ?_ (by with_reducible assumption))))).mono ?_
      rintro e w1 ⟨rfl, hw1⟩
      rw [HK.out]
      obtain ⟨hc1, hf1⟩ := bcell1 hw1
      have hz1 : w.heap.size < w1.heap.size := by have := hw1.size; simp at this; omega
      have z0 : w1.cell? ⟨w.heap.size, 0, none⟩ = some (.int .i64 0) := keep hw1 (by go_simp)
      have z1 : w1.cell? ⟨w.heap.size, 1, none⟩ = some (.int .i64 0) := keep hw1 (by go_simp)
      have z2 : w1.cell? ⟨w.heap.size, 2, none⟩ = some (.int .i64 0) := keep hw1 (by go_simp)
      have z3 : w1.cell? ⟨w.heap.size, 3, none⟩ = some (.int .i64 0) := keep hw1 (by go_simp)
      go_wp2
      refine bodyPost_ret (v := .tuple #[.agg #[.int .i64 0, .int .i64 0, .int .i64 0, .int .i64 0], .bool false]) (by simp [results, Tryd.results23, go_sem, *]) rfl ⟨by rw [E.out]; rfl, (by repeat (first | with_reducible assumption | with_reducible exact Ext.refl _ | with_reducible apply Ext.drewN | with_reducible apply Ext.drew | with_reducible apply Ext.alloc | with_reducible refine Ext.set ?_ (by first | (simp; done) | (simp; omega)) _ | with_reducible refine Ext.next ?_ (by with_reducible assumption)))⟩
    · have E := hid (insTake_yes (w := n) (by unfold takeOk; rw [hk, ho]; rfl))
      have HK := hid hk
      clear ho hk
      go_enter Tryd.func23, Tryd.ntmps23
      go_wp2_with fail
      refine (implWrdOk _ _).mono ?_
      rintro e w' ⟨rfl, rfl⟩
      rw [HO.out]
      go_wp2_with fail
      try rw [and_three, and_three, and_byte]
      refine (implInsOk _ _ _ _ _ (hF.ext (by repeat (first | with_reducible assumption | with_reducible exact Ext.refl _ | with_reducible apply Ext.drewN | with_reducible apply Ext.drew | with_reducible apply Ext.alloc | with_reducible refine Ext.set ?_ (by first | (simp; done) | (simp; omega)) _ | with_reducible refine Ext.next ?_ (by with_reducible assumption))))).mono ?_
      rintro e w1 ⟨rfl, hw1⟩
      rw [HK.out]
      obtain ⟨hc1, hf1⟩ := bcell1 hw1
      have hz1 : w.heap.size + 1 < w1.heap.size := by have := hw1.size; simp at this; omega
      have hy1 : w.heap.size < w1.heap.size := by omega
      try rw [and_three, and_three, and_byte] at hc1
      have z0 : w1.cell? ⟨w.heap.size, 0, none⟩ = some (.int .i64 0) := keep hw1 (by go_simp)
      have z1 : w1.cell? ⟨w.heap.size, 1, none⟩ = some (.int .i64 0) := keep hw1 (by go_simp)
      have z2 : w1.cell? ⟨w.heap.size, 2, none⟩ = some (.int .i64 0) := keep hw1 (by go_simp)
      have z3 : w1.cell? ⟨w.heap.size, 3, none⟩ = some (.int .i64 0) := keep hw1 (by go_simp)
      go_wp2
      refine bodyPost_ret (v := .tuple #[.agg #[.int .i64 ((n : Int) / 4096), .int .i64 ((n : Int) / 1024 % 4), .int .i64 ((n : Int) / 256 % 4), .int .i64 ((n : Int) % 256)], .bool true]) (by simp [results, Tryd.results23, go_sem, *]) rfl ⟨by rw [E.out]; rfl, (by repeat (first | with_reducible assumption | with_reducible exact Ext.refl _ | with_reducible apply Ext.drewN | with_reducible apply Ext.drew | with_reducible apply Ext.alloc | with_reducible refine Ext.set ?_ (by first | (simp; done) | (simp; omega)) _ | with_reducible refine Ext.next ?_ (by with_reducible assumption)))⟩

theorem specInsTake (x : Int) (w : World) :
    Calls Tryd.prog 22 #[.int .i64 x] w fun e w' => e = .returned (retTake (insTake x)) ∧ Ext w w' := by
  cases ho : wrdOk x
  · have E := hid (insTake_no (w := x) (by unfold takeOk; rw [ho]; rfl))
    have HO := hid ho
    clear ho
    go_enter Tryd.func22, Tryd.ntmps22
    go_wp2_with fail
    refine (specWrdOk _ _).mono ?_
    rintro e w' ⟨rfl, rfl⟩
    rw [HO.out]
    go_wp2
    refine bodyPost_ret (v := .tuple #[.agg #[.int .i64 0, .int .i64 0, .int .i64 0, .int .i64 0], .bool false]) (by simp [results, Tryd.results22, go_sem, *]) rfl ⟨by rw [E.out]; rfl, (by repeat (first | with_reducible assumption | with_reducible exact Ext.refl _ | with_reducible apply Ext.drewN | with_reducible apply Ext.drew | with_reducible apply Ext.alloc | with_reducible refine Ext.set ?_ (by first | (simp; done) | (simp; omega)) _ | with_reducible refine Ext.next ?_ (by with_reducible assumption)))⟩
  · have HO := hid ho
    obtain ⟨n, rfl⟩ : ∃ n : Nat, x = n := ⟨x.toNat, by simp [wrdOk] at ho; omega⟩
    have hn : n < 65536 := by simp [wrdOk] at ho; omega
    cases hk : insOk ((n : Int) / 4096) ((n : Int) / 1024 % 4) ((n : Int) / 256 % 4) ((n : Int) % 256)
    · have E := hid (insTake_no (w := n) (by unfold takeOk; rw [hk, Bool.and_false]))
      have HK := hid hk
      clear ho hk
      go_enter Tryd.func22, Tryd.ntmps22
      go_wp2_with fail
      refine (specWrdOk _ _).mono ?_
      rintro e w' ⟨rfl, rfl⟩
      rw [HO.out]
      go_wp2_with fail
      try rw [and_three, and_three, and_byte]
      refine (specInsOk _ _ _ _ _).mono ?_
      rintro e w1 ⟨rfl, hw1⟩
      rw [HK.out]
      obtain ⟨hc1, hf1⟩ := bcell1 hw1
      have hz1 : w.heap.size < w1.heap.size := by have := hw1.size; simp at this; omega
      have z0 : w1.cell? ⟨w.heap.size, 0, none⟩ = some (.int .i64 0) := keep hw1 (by go_simp)
      have z1 : w1.cell? ⟨w.heap.size, 1, none⟩ = some (.int .i64 0) := keep hw1 (by go_simp)
      have z2 : w1.cell? ⟨w.heap.size, 2, none⟩ = some (.int .i64 0) := keep hw1 (by go_simp)
      have z3 : w1.cell? ⟨w.heap.size, 3, none⟩ = some (.int .i64 0) := keep hw1 (by go_simp)
      go_wp2
      refine bodyPost_ret (v := .tuple #[.agg #[.int .i64 0, .int .i64 0, .int .i64 0, .int .i64 0], .bool false]) (by simp [results, Tryd.results22, go_sem, *]) rfl ⟨by rw [E.out]; rfl, (by repeat (first | with_reducible assumption | with_reducible exact Ext.refl _ | with_reducible apply Ext.drewN | with_reducible apply Ext.drew | with_reducible apply Ext.alloc | with_reducible refine Ext.set ?_ (by first | (simp; done) | (simp; omega)) _ | with_reducible refine Ext.next ?_ (by with_reducible assumption)))⟩
    · have E := hid (insTake_yes (w := n) (by unfold takeOk; rw [hk, ho]; rfl))
      have HK := hid hk
      clear ho hk
      go_enter Tryd.func22, Tryd.ntmps22
      go_wp2_with fail
      refine (specWrdOk _ _).mono ?_
      rintro e w' ⟨rfl, rfl⟩
      rw [HO.out]
      go_wp2_with fail
      try rw [and_three, and_three, and_byte]
      refine (specInsOk _ _ _ _ _).mono ?_
      rintro e w1 ⟨rfl, hw1⟩
      rw [HK.out]
      obtain ⟨hc1, hf1⟩ := bcell1 hw1
      have hz1 : w.heap.size + 1 < w1.heap.size := by have := hw1.size; simp at this; omega
      have hy1 : w.heap.size < w1.heap.size := by omega
      try rw [and_three, and_three, and_byte] at hc1
      have z0 : w1.cell? ⟨w.heap.size, 0, none⟩ = some (.int .i64 0) := keep hw1 (by go_simp)
      have z1 : w1.cell? ⟨w.heap.size, 1, none⟩ = some (.int .i64 0) := keep hw1 (by go_simp)
      have z2 : w1.cell? ⟨w.heap.size, 2, none⟩ = some (.int .i64 0) := keep hw1 (by go_simp)
      have z3 : w1.cell? ⟨w.heap.size, 3, none⟩ = some (.int .i64 0) := keep hw1 (by go_simp)
      go_wp2
      refine bodyPost_ret (v := .tuple #[.agg #[.int .i64 ((n : Int) / 4096), .int .i64 ((n : Int) / 1024 % 4), .int .i64 ((n : Int) / 256 % 4), .int .i64 ((n : Int) % 256)], .bool true]) (by simp [results, Tryd.results22, go_sem, *]) rfl ⟨by rw [E.out]; rfl, (by repeat (first | with_reducible assumption | with_reducible exact Ext.refl _ | with_reducible apply Ext.drewN | with_reducible apply Ext.drew | with_reducible apply Ext.alloc | with_reducible refine Ext.set ?_ (by first | (simp; done) | (simp; omega)) _ | with_reducible refine Ext.next ?_ (by with_reducible assumption)))⟩
end Go.Proofs.YtpmipopeoiojjaaDoor
