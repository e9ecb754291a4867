/- Whether a piece of code is ok: plain words, and contracts of the small functions of both sides. Conditions: lengths that a machine can hold. -/
import Derived.Test.YtcjeeggffeoilaaRL
import Derived.OwnWalk
namespace Go.Proofs.Ytcjeeggffeoilaa
open Go Go.RowKit
set_option linter.unusedVariables false
set_option linter.unusedSimpArgs false

def makesB (kd : Int) : Bool := inB kd 1 4 || (kd == 6)
def mkAt (ops : List Op5) (x : Int) : Bool := match ops[x.toNat]? with | some o => makesB o.kind | none => false
def valB (ops : List Op5) (x : Int) (n : Nat) : Bool := inB x 0 ((n : Int) - 1) && mkAt ops x
def hasX (kd : Int) : Bool := !(kd == 1) && (!(kd == 2) && !(kd == 6))
def hasY (kd : Int) : Bool := (kd == 3) || (kd == 5)
def hasK (kd : Int) : Bool := (kd == 1) || ((kd == 2) || ((kd == 3) || (kd == 8)))
def hasA (kd : Int) : Bool := inB kd 4 7
theorem kinds8 {kd : Int} (h : inB kd 1 8 = true) : kd = 1 ∨ kd = 2 ∨ kd = 3 ∨ kd = 4 ∨ kd = 5 ∨ kd = 6 ∨ kd = 7 ∨ kd = 8 := by
  unfold inB at h
  simp at h
  omega

theorem implProduces (o : Op5) (w : World) : Calls Try.prog 53 #[o.val] w fun e w' => e = .returned (.bool (makesB o.kind)) ∧ Ext w w' := by
  unfold Op5.val
  cases c : inB o.kind 1 4
  · have C := hid c
    have E := hid (show makesB o.kind = (o.kind == 6) by unfold makesB; rw [c]; rfl)
    clear c
    go_enter Try.func53, Try.ntmps53
    go_wp2_with fail
    refine (implIn _ _ _ _).mono ?_
    rintro e w' ⟨rfl, rfl⟩
    rw [C.out]
    go_wp2
    go_ret
    exact ⟨ret_bool E.out.symm, (by repeat (first | with_reducible assumption | with_reducible exact Ext.refl _ | with_reducible apply Ext.drewN | with_reducible apply Ext.drew | with_reducible apply Ext.alloc | with_reducible refine Ext.set ?_ (by first | (simp; done) | (simp; omega)) _ | with_reducible refine Ext.next ?_ (by with_reducible assumption)))⟩
  · have C := hid c
    have E := hid (show makesB o.kind = true by unfold makesB; rw [c]; rfl)
    clear c
    go_enter Try.func53, Try.ntmps53
    go_wp2_with fail
    refine (implIn _ _ _ _).mono ?_
    rintro e w' ⟨rfl, rfl⟩
    rw [C.out]
    go_wp2
    go_ret
    exact ⟨ret_bool E.out.symm, (by repeat (first | with_reducible assumption | with_reducible exact Ext.refl _ | with_reducible apply Ext.drewN | with_reducible apply Ext.drew | with_reducible apply Ext.alloc | with_reducible refine Ext.set ?_ (by first | (simp; done) | (simp; omega)) _ | with_reducible refine Ext.next ?_ (by with_reducible assumption)))⟩
theorem specMakes (kd : Int) (w : World) : Calls Try.prog 52 #[.int .i64 kd] w fun e w' => e = .returned (.bool (makesB kd)) ∧ w = w' := by
  cases c : inB kd 1 4
  · have C := hid c
    have E := hid (show makesB kd = (kd == 6) by unfold makesB; rw [c]; rfl)
    clear c
    go_enter Try.func52, Try.ntmps52
    go_wp2_with fail
    refine (specL1In _ _ _ _).mono ?_
    rintro e w' ⟨rfl, rfl⟩
    rw [C.out]
    go_wp2
    go_ret
    exact ⟨ret_bool E.out.symm, rfl⟩
  · have C := hid c
    have E := hid (show makesB kd = true by unfold makesB; rw [c]; rfl)
    clear c
    go_enter Try.func52, Try.ntmps52
    go_wp2_with fail
    refine (specL1In _ _ _ _).mono ?_
    rintro e w' ⟨rfl, rfl⟩
    rw [C.out]
    go_wp2
    go_ret
    exact ⟨ret_bool E.out.symm, rfl⟩
theorem mkAt_of {ops : List Op5} {m : Nat} {o : Op5} (h : ops[m]? = some o) : mkAt ops (m : Int) = makesB o.kind := by
  unfold mkAt
  rw [Int.toNat_natCast, h]
theorem implValue (b : Bk) (x : Int) (n : Nat) (w : World) (h : RBk 63 w b) (hn : n ≤ b.ops.length) (hl : b.ops.length ≤ 1048576) {v : Bool} (hv : valB b.ops x n = v) :
    Calls Try.prog 49 #[b.val, .int .i64 x, .int .i64 n] w fun e w' => e = .returned (.bool v) ∧ Ext w w' := by
  subst hv
  obtain ⟨pc, len, A, c, ops, end_, bx, y, k⟩ := b
  unfold RBk at h
  unfold Bk.val Bk.cells
  simp only at h hn hl ⊢
  cases hc : inB x 0 ((n : Int) - 1)
  · have C := hid hc
    have E := hid (show valB ops x n = false by unfold valB; rw [hc]; rfl)
    clear hc
    go_enter Try.func49, Try.ntmps49
    go_wp2_with fail
    refine (implIn _ _ _ _).mono ?_
    rintro e w' ⟨rfl, rfl⟩
    rw [C.out]
    go_wp2
    go_ret
    exact ⟨ret_bool E.out.symm, (by repeat (first | with_reducible assumption | with_reducible exact Ext.refl _ | with_reducible apply Ext.drewN | with_reducible apply Ext.drew | with_reducible apply Ext.alloc | with_reducible refine Ext.set ?_ (by first | (simp; done) | (simp; omega)) _ | with_reducible refine Ext.next ?_ (by with_reducible assumption)))⟩
  · have C := hid hc
    obtain ⟨m, rfl⟩ : ∃ m : Nat, x = m := ⟨x.toNat, by unfold inB at hc; simp at hc; omega⟩
    have hm : m < ops.length := by unfold inB at hc; simp at hc; omega
    obtain ⟨g, o, p, rfl, hb, hp, d0, d1, d2, d3, d4⟩ := h.at_ hm
    have E := hid (show valB ops (m : Int) n = makesB p.kind by unfold valB; rw [hc, mkAt_of hp]; rfl)
    clear hc hp
    go_enter Try.func49, Try.ntmps49
    go_wp2_with fail
    refine (implIn _ _ _ _).mono ?_
    rintro e w' ⟨rfl, rfl⟩
    rw [C.out]
    go_wp2_with fail
    refine (implProduces p _).mono ?_
    rintro e w2 ⟨rfl, hw2⟩
    go_wp2
    go_ret
    exact ⟨ret_bool E.out.symm, (by repeat (first | with_reducible assumption | with_reducible exact Ext.refl _ | with_reducible apply Ext.drewN | with_reducible apply Ext.drew | with_reducible apply Ext.alloc | with_reducible refine Ext.set ?_ (by first | (simp; done) | (simp; omega)) _ | with_reducible refine Ext.next ?_ (by with_reducible assumption)))⟩
theorem specVal (A : Option Addr) (c : Nat) (ops : List Op5) (x : Int) (n : Nat) (w : World) (h : ROp5 63 w A ops) (hn : n ≤ ops.length) (hl : ops.length ≤ 1048576) {v : Bool} (hv : valB ops x n = v) :
    Calls Try.prog 44 #[.slice A ops.length c, .int .i64 x, .int .i64 n] w fun e w' => e = .returned (.bool v) ∧ w = w' := by
  subst hv
  by_cases h0 : 0 ≤ x
  · by_cases h1 : x < n
    · obtain ⟨m, rfl⟩ : ∃ m : Nat, x = m := ⟨x.toNat, by omega⟩
      have hm : m < ops.length := by omega
      obtain ⟨g, o, p, rfl, hb, hp, d0, d1, d2, d3, d4⟩ := h.at_ hm
      have E := hid (show valB ops (m : Int) n = makesB p.kind by unfold valB; rw [show inB (m : Int) 0 ((n : Int) - 1) = true by unfold inB; simp; omega, mkAt_of hp]; rfl)
      clear hp
      go_enter Try.func44, Try.ntmps44
      go_wp2_with fail
      refine (specMakes _ _).mono ?_
      rintro e w' ⟨rfl, rfl⟩
      go_wp2
      go_ret
      exact ⟨ret_bool E.out.symm, rfl⟩
    · have E := hid (show valB ops x n = false by unfold valB; rw [show inB x 0 ((n : Int) - 1) = false by unfold inB; simp; omega]; rfl)
      go_enter Try.func44, Try.ntmps44
      go_wp2
      go_ret
      exact ⟨ret_bool E.out.symm, rfl⟩
  · have E := hid (show valB ops x n = false by unfold valB; rw [show inB x 0 ((n : Int) - 1) = false by unfold inB; simp; omega]; rfl)
    go_enter Try.func44, Try.ntmps44
    go_wp2
    go_ret
    exact ⟨ret_bool E.out.symm, rfl⟩
/-- What the fields of an operation are. -/
theorem implHas (o : Op5) (w : World) (h : inB o.kind 1 8 = true) : Calls Try.prog 46 #[o.val] w fun e w' => e = .returned (.tuple #[.bool (hasX o.kind), .bool (hasY o.kind), .bool (hasK o.kind), .bool (hasA o.kind)]) ∧ Ext w w' := by
  obtain ⟨kd, x, y, k, at_⟩ := o
  unfold Op5.val
  rcases kinds8 h with e | e | e | e | e | e | e | e
  all_goals
    simp only at e
    subst e
    clear h
    have F := hid (show True from trivial)
    go_enter Try.func46, Try.ntmps46
    go_wp2_with fail
    refine (implIn _ _ _ _).mono ?_
    rintro e w' ⟨rfl, rfl⟩
    go_wp2
    refine bodyPost_ret (v := .tuple #[.bool _, .bool _, .bool _, .bool _]) (by simp [results, Try.results46, go_sem]; exact ⟨rfl, rfl, rfl, rfl⟩) rfl ⟨by rfl, (by repeat (first | with_reducible assumption | with_reducible exact Ext.refl _ | with_reducible apply Ext.drewN | with_reducible apply Ext.drew | with_reducible apply Ext.alloc | with_reducible refine Ext.set ?_ (by first | (simp; done) | (simp; omega)) _ | with_reducible refine Ext.next ?_ (by with_reducible assumption)))⟩
end Go.Proofs.Ytcjeeggffeoilaa
