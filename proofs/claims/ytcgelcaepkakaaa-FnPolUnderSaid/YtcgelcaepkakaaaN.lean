/- Contracts of what tells the word that a sum is. Conditions: lengths that a machine can hold. -/
import Derived.Test.YtcgelcaepkakaaaO
namespace Go.Proofs.Ytcgelcaepkakaaa
open Go Go.RowKit
set_option linter.unusedVariables false
set_option linter.unusedSimpArgs false

/-- The word that a sum is, and whether it is one. -/
def polNum (p : List (Int × List Int)) : Int × Bool :=
  match polOk p, p with
  | true, [] => (0, true)
  | true, [(c, [])] => (c, true)
  | _, _ => (0, false)
def retNum (r : Int × Bool) : Value := .tuple #[.int .i64 r.1, .bool r.2]
theorem ret_num {c : Int} {b : Bool} {r : Int × Bool} (h : r = (c, b)) : Ending.returned (.tuple #[.int .i64 c, .bool b]) = .returned (retNum r) := by rw [h]; rfl

theorem polNum_not {p : List (Int × List Int)} (h : polOk p = false) : polNum p = (0, false) := by unfold polNum; rw [h]
theorem polNum_nil {p : List (Int × List Int)} (h : p.length = 0) : polNum p = (0, true) := by
  have : p = [] := List.length_eq_zero_iff.1 h
  subst this
  rfl
theorem polNum_one {ms : List Mn} {m : Mn} (h : polOk (ms.map Mn.dat) = true) (hl : ms.length = 1) (hm : ms[0]? = some m) (hx : m.xs.length = 0) : polNum (ms.map Mn.dat) = (m.c, true) := by
  match ms, hl with
  | [a], _ =>
    injection hm with hm
    subst hm
    have e : a.xs = [] := List.length_eq_zero_iff.1 hx
    have h' : polOk [(a.c, ([] : List Int))] = true := by
      have : polOk [a.dat] = true := h
      rwa [Mn.dat, e] at this
    show polNum [a.dat] = _
    rw [Mn.dat, e]
    unfold polNum
    rw [h']
theorem polNum_atoms {ms : List Mn} {m : Mn} (hl : ms.length = 1) (hm : ms[0]? = some m) (hx : m.xs.length ≠ 0) : polNum (ms.map Mn.dat) = (0, false) := by
  match ms, hl with
  | [a], _ =>
    injection hm with hm
    subst hm
    show polNum [a.dat] = _
    unfold polNum
    match e : a.xs with
    | [] => rw [e] at hx; simp at hx
    | x :: l =>
      rw [Mn.dat, e]
      cases polOk [(a.c, x :: l)] <;> rfl
theorem polNum_many {p : List (Int × List Int)} (h : 1 < p.length) : polNum p = (0, false) := by
  match p, h with
  | a :: b :: l, _ => obtain ⟨c, x⟩ := a; cases x <;> (unfold polNum; cases polOk (_ :: b :: l) <;> rfl)

theorem implPolNum (A : Option Addr) (k : Nat) (ms : List Mn) (w : World) (h : RM 73 3 w A ms) (hs : SzM ms) :
    Calls Try.prog 35 #[.agg #[.slice A ms.length k]] w fun e w' => e = .returned (retNum (polNum (ms.map Mn.dat))) ∧ Ext w w' := by
  have hn := hs.1
  go_enter Try.func35, Try.ntmps35
  go_wp2_with fail
  refine (implPolOk _ _ _ _ (h.ext (by repeat (first | with_reducible assumption | with_reducible exact Ext.refl _ | with_reducible apply Ext.drewN | with_reducible apply Ext.drew | with_reducible apply Ext.alloc))) hs).mono ?_
  rintro e w1 ⟨rfl, hw1⟩
  have c1 : w1.cell? ⟨w.heap.size, 0, none⟩ = some (.slice A ms.length k) := keep hw1 (by go_simp)
  have hl1 := World.block_lt_of_cell? w1 _ c1
  simp only at hl1
  cases hp : polOk (ms.map Mn.dat)
  · have HZ := hid (polNum_not hp)
    clear hp
    go_wp2
    go_ret2
    exact ⟨ret_num HZ.out, (by repeat (first | with_reducible assumption | with_reducible exact Ext.refl _ | with_reducible apply Ext.drewN | with_reducible apply Ext.drew | with_reducible apply Ext.alloc | with_reducible refine Ext.set ?_ (by first | (simp; done) | (simp; omega)) _ | with_reducible refine Ext.next ?_ (by with_reducible assumption)))⟩
  · have HP := hid hp
    clear hp
    by_cases h0 : ms.length = 0
    · have HZ := hid (polNum_nil (p := ms.map Mn.dat) (by simpa using h0))
      have hb : ((ms.length : Int) == 0) = true := by simp [h0]
      go_wp2
      go_ret2
      exact ⟨ret_num HZ.out, (by repeat (first | with_reducible assumption | with_reducible exact Ext.refl _ | with_reducible apply Ext.drewN | with_reducible apply Ext.drew | with_reducible apply Ext.alloc | with_reducible refine Ext.set ?_ (by first | (simp; done) | (simp; omega)) _ | with_reducible refine Ext.next ?_ (by with_reducible assumption)))⟩
    · obtain ⟨b, o, m, rfl, hb, hm, hc0, hc1, hI⟩ := (h.ext (show Ext w w1 from (by repeat (first | with_reducible assumption | with_reducible exact Ext.refl _ | with_reducible apply Ext.drewN | with_reducible apply Ext.drew | with_reducible apply Ext.alloc | with_reducible refine Ext.set ?_ (by first | (simp; done) | (simp; omega)) _ | with_reducible refine Ext.next ?_ (by with_reducible assumption))))).at_ (i := 0) (by omega)
      simp only [Nat.zero_mul, Nat.add_zero] at hc0 hc1
      have HM := hid hm
      clear hm h
      by_cases h1 : ms.length = 1
      · have hb1 : ((ms.length : Int) == 1) = true := by simp [h1]
        have hb2 : ((ms.length : Int) == 0) = false := by simp [h1]
        by_cases hx : m.xs.length = 0
        · have HZ := hid (polNum_one HP.out h1 HM.out hx)
          have hb3 : ((m.xs.length : Int) == 0) = true := by simp [hx]
          go_wp2
          go_ret2
          exact ⟨ret_num HZ.out, (by repeat (first | with_reducible assumption | with_reducible exact Ext.refl _ | with_reducible apply Ext.drewN | with_reducible apply Ext.drew | with_reducible apply Ext.alloc | with_reducible refine Ext.set ?_ (by first | (simp; done) | (simp; omega)) _ | with_reducible refine Ext.next ?_ (by with_reducible assumption)))⟩
        · have HZ := hid (polNum_atoms h1 HM.out hx)
          have hb3 : ((m.xs.length : Int) == 0) = false := by first | (rw [beq_eq_false_iff_ne]; omega) | (rw [decide_eq_false_iff_not]; omega)
          go_wp2
          go_ret2
          exact ⟨ret_num HZ.out, (by repeat (first | with_reducible assumption | with_reducible exact Ext.refl _ | with_reducible apply Ext.drewN | with_reducible apply Ext.drew | with_reducible apply Ext.alloc | with_reducible refine Ext.set ?_ (by first | (simp; done) | (simp; omega)) _ | with_reducible refine Ext.next ?_ (by with_reducible assumption)))⟩
      · have HZ := hid (polNum_many (p := ms.map Mn.dat) (by simp; omega))
        have hb1 : ((ms.length : Int) == 1) = false := by first | (rw [beq_eq_false_iff_ne]; omega) | (rw [decide_eq_false_iff_not]; omega)
        have hb2 : ((ms.length : Int) == 0) = false := by first | (rw [beq_eq_false_iff_ne]; omega) | (rw [decide_eq_false_iff_not]; omega)
        go_wp2
        go_ret2
        exact ⟨ret_num HZ.out, (by repeat (first | with_reducible assumption | with_reducible exact Ext.refl _ | with_reducible apply Ext.drewN | with_reducible apply Ext.drew | with_reducible apply Ext.alloc | with_reducible refine Ext.set ?_ (by first | (simp; done) | (simp; omega)) _ | with_reducible refine Ext.next ?_ (by with_reducible assumption)))⟩

theorem specPolNum (A : Option Addr) (k : Nat) (ms : List Mn) (w : World) (h : RM 73 3 w A ms) (hs : SzM ms) :
    Calls Try.prog 36 #[.agg #[.slice A ms.length k]] w fun e w' => e = .returned (retNum (polNum (ms.map Mn.dat))) ∧ Ext w w' := by
  have hn := hs.1
  go_enter Try.func36, Try.ntmps36
  go_wp2_with fail
  refine (specPolOk _ _ _ _ (h.ext (by repeat (first | with_reducible assumption | with_reducible exact Ext.refl _ | with_reducible apply Ext.drewN | with_reducible apply Ext.drew | with_reducible apply Ext.alloc))) hs).mono ?_
  rintro e w1 ⟨rfl, hw1⟩
  have c1 : w1.cell? ⟨w.heap.size, 0, none⟩ = some (.slice A ms.length k) := keep hw1 (by go_simp)
  have hl1 := World.block_lt_of_cell? w1 _ c1
  simp only at hl1
  cases hp : polOk (ms.map Mn.dat)
  · have HZ := hid (polNum_not hp)
    clear hp
    go_wp2
    go_ret2
    exact ⟨ret_num HZ.out, (by repeat (first | with_reducible assumption | with_reducible exact Ext.refl _ | with_reducible apply Ext.drewN | with_reducible apply Ext.drew | with_reducible apply Ext.alloc | with_reducible refine Ext.set ?_ (by first | (simp; done) | (simp; omega)) _ | with_reducible refine Ext.next ?_ (by with_reducible assumption)))⟩
  · have HP := hid hp
    clear hp
    by_cases h0 : ms.length = 0
    · have HZ := hid (polNum_nil (p := ms.map Mn.dat) (by simpa using h0))
      have hb : ((ms.length : Int) == 0) = true := by simp [h0]
      go_wp2
      go_ret2
      exact ⟨ret_num HZ.out, (by repeat (first | with_reducible assumption | with_reducible exact Ext.refl _ | with_reducible apply Ext.drewN | with_reducible apply Ext.drew | with_reducible apply Ext.alloc | with_reducible refine Ext.set ?_ (by first | (simp; done) | (simp; omega)) _ | with_reducible refine Ext.next ?_ (by with_reducible assumption)))⟩
    · obtain ⟨b, o, m, rfl, hb, hm, hc0, hc1, hI⟩ := (h.ext (show Ext w w1 from (by repeat (first | with_reducible assumption | with_reducible exact Ext.refl _ | with_reducible apply Ext.drewN | with_reducible apply Ext.drew | with_reducible apply Ext.alloc | with_reducible refine Ext.set ?_ (by first | (simp; done) | (simp; omega)) _ | with_reducible refine Ext.next ?_ (by with_reducible assumption))))).at_ (i := 0) (by omega)
      simp only [Nat.zero_mul, Nat.add_zero] at hc0 hc1
      have HM := hid hm
      clear hm h
      have hb2 : ((ms.length : Int) == 0) = false := by first | (rw [beq_eq_false_iff_ne]; omega) | (rw [decide_eq_false_iff_not]; omega)
      by_cases h1 : ms.length = 1
      · have hb1 : decide ((1 : Int) < (ms.length : Int)) = false := by simp [h1]
        by_cases hx : m.xs.length = 0
        · have HZ := hid (polNum_one HP.out h1 HM.out hx)
          have hb3 : decide ((0 : Int) < (m.xs.length : Int)) = false := by simp [hx]
          go_wp2
          go_ret2
          exact ⟨ret_num HZ.out, (by repeat (first | with_reducible assumption | with_reducible exact Ext.refl _ | with_reducible apply Ext.drewN | with_reducible apply Ext.drew | with_reducible apply Ext.alloc | with_reducible refine Ext.set ?_ (by first | (simp; done) | (simp; omega)) _ | with_reducible refine Ext.next ?_ (by with_reducible assumption)))⟩
        · have HZ := hid (polNum_atoms h1 HM.out hx)
          have hb3 : decide ((0 : Int) < (m.xs.length : Int)) = true := decide_eq_true (by omega)
          go_wp2
          go_ret2
          exact ⟨ret_num HZ.out, (by repeat (first | with_reducible assumption | with_reducible exact Ext.refl _ | with_reducible apply Ext.drewN | with_reducible apply Ext.drew | with_reducible apply Ext.alloc | with_reducible refine Ext.set ?_ (by first | (simp; done) | (simp; omega)) _ | with_reducible refine Ext.next ?_ (by with_reducible assumption)))⟩
      · have HZ := hid (polNum_many (p := ms.map Mn.dat) (by simp; omega))
        have hb1 : decide ((1 : Int) < (ms.length : Int)) = true := decide_eq_true (by omega)
        go_wp2
        go_ret2
        exact ⟨ret_num HZ.out, (by repeat (first | with_reducible assumption | with_reducible exact Ext.refl _ | with_reducible apply Ext.drewN | with_reducible apply Ext.drew | with_reducible apply Ext.alloc | with_reducible refine Ext.set ?_ (by first | (simp; done) | (simp; omega)) _ | with_reducible refine Ext.next ?_ (by with_reducible assumption)))⟩
end Go.Proofs.Ytcgelcaepkakaaa
