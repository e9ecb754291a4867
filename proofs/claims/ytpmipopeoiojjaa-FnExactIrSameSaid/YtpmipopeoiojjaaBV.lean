/- What reaches out of a piece of code, and whether two pieces of code are the same: contracts of IrEvents and IrSame of both sides. Conditions: lengths that a machine can hold. -/
import Derived.Test.YtpmipopeoiojjaaBK
import Derived.Laws.StructEq
namespace Go.Proofs.Ytpmipopeoiojjaa
open Go Go.RowKit
set_option linter.unusedVariables false
set_option linter.unusedSimpArgs false

def evs (b : Bk) : Int := events b.ops
theorem evs_dat {b b' : Bk} (h : b.dat = b'.dat) : evs b = evs b' := by
  unfold Bk.dat at h
  simp only [Prod.mk.injEq] at h
  unfold evs
  rw [h.2.2.1]
theorem implIrEvents (b : Bk) (w : World) (h : RBk 59 w b) (hn : b.ops.length < 4611686018427387904) :
    Calls Try.prog 18 #[b.val] w fun e w' => e = .returned (.int .i64 (evs b)) ∧ Ext w w' := by
  unfold evs
  obtain ⟨pc, len, A, c, ops, end_, x, y, k⟩ := b
  unfold RBk at h
  unfold Bk.val Bk.cells
  simp only at h hn ⊢
  go_enter Try.func18, Try.ntmps18
  go_wp2
  go_loopw [3, 5, 9] (fun v _ i wr => ∃ j : Nat, j ≤ ops.length ∧ i = .int .i64 j ∧ v = .int .i64 (events (ops.take j)) ∧ Ext w wr) (fun _ _ i _ => ops.length - (intOf i).toNat)
  case atStart => exact ⟨0, Nat.zero_le _, rfl, rfl, (by repeat (first | with_reducible assumption | with_reducible exact Ext.refl _ | with_reducible apply Ext.drewN | with_reducible apply Ext.drew | with_reducible apply Ext.alloc | with_reducible refine Ext.set ?_ (by first | (simp; done) | (simp; omega)) _ | with_reducible refine Ext.next ?_ (by with_reducible assumption)))⟩
  case round =>
    obtain ⟨j, hj, rfl, rfl, hext⟩ := hrel
    have hle := Nat.le_trans (events_le (ops.take j)) (by rw [List.length_take]; exact Nat.min_le_left _ _ : (ops.take j).length ≤ j)
    by_cases hlt : j < ops.length
    · obtain ⟨b, o, x, rfl, hb, hx, hc0, hc1, hc2, hc3, hc4⟩ := (h.ext hext).at_ hlt
      have HT := hid (events_take hx)
      clear hx h
      generalize events (ops.take j) = d at *
      cases he : eventB x
      all_goals
        have HE := hid he
        clear he
        go_wp2_with fail
        refine (implEvent x _).mono ?_
        rintro e w1 ⟨rfl, hw1⟩
        rw [HE.out]
        go_wp2
        go_roundw
        case rel => exact ⟨j + 1, by omega, by go_num, by rw [HT.out, HE.out]; go_num, (by repeat (first | with_reducible assumption | with_reducible exact Ext.refl _ | with_reducible apply Ext.drewN | with_reducible apply Ext.drew | with_reducible apply Ext.alloc | with_reducible refine Ext.set ?_ (by first | (simp; done) | (simp; omega)) _ | with_reducible refine Ext.next ?_ (by with_reducible assumption)))⟩
        case measure => simp [intOf]; omega
    · obtain rfl : j = ops.length := by omega
      have HT := hid (show ops.take ops.length = ops from List.take_length)
      go_wp2
      go_ret
      exact ⟨ret_int (by rw [HT.out]), hext⟩

theorem specIrEvents (b : Bk) (w : World) (h : RBk 59 w b) (hn : b.ops.length < 4611686018427387904) :
    Calls Try.prog 16 #[b.val] w fun e w' => e = .returned (.int .i64 (evs b)) ∧ Ext w w' := by
  unfold evs
  obtain ⟨pc, len, A, c, ops, end_, x, y, k⟩ := b
  unfold RBk at h
  unfold Bk.val Bk.cells
  simp only at h hn ⊢
  go_enter Try.func16, Try.ntmps16
  go_wp2
  go_loopw [3, 4] (fun v i wr => ∃ j : Nat, j ≤ ops.length ∧ i = .int .i64 j ∧ v = .int .i64 (events (ops.take j)) ∧ wr.cell? ⟨w.heap.size, 2, none⟩ = some (.slice A ops.length c) ∧ Ext w wr) (fun _ i _ => ops.length - (intOf i).toNat)
  case atStart => exact ⟨0, Nat.zero_le _, rfl, rfl, by go_simp, (by repeat (first | with_reducible assumption | with_reducible exact Ext.refl _ | with_reducible apply Ext.drewN | with_reducible apply Ext.drew | with_reducible apply Ext.alloc | with_reducible refine Ext.set ?_ (by first | (simp; done) | (simp; omega)) _ | with_reducible refine Ext.next ?_ (by with_reducible assumption)))⟩
  case round =>
    obtain ⟨j, hj, rfl, rfl, b0, hext⟩ := hrel
    have hb0 := World.block_lt_of_cell? _ _ b0
    simp only at hb0
    have hle := Nat.le_trans (events_le (ops.take j)) (by rw [List.length_take]; exact Nat.min_le_left _ _ : (ops.take j).length ≤ j)
    by_cases hlt : j < ops.length
    · obtain ⟨b, o, x, rfl, hb, hx, hc0, hc1, hc2, hc3, hc4⟩ := (h.ext hext).at_ hlt
      have HT := hid (events_take hx)
      clear hx h
      generalize events (ops.take j) = d at *
      cases he : eventB x
      all_goals
        have HE := hid he
        clear he
        go_wp2_with (go_at_call 40; refine (specL1In _ _ _ _).mono ?_; rintro e w' ⟨rfl, rfl⟩; rw [show inB x.kind 4 7 = _ from HE.out])
        go_roundw
        case rel => exact ⟨j + 1, by omega, by go_num, by rw [HT.out, HE.out]; go_num, b0, (by repeat (first | with_reducible assumption | with_reducible exact Ext.refl _ | with_reducible apply Ext.drewN | with_reducible apply Ext.drew | with_reducible apply Ext.alloc | with_reducible refine Ext.set ?_ (by first | (simp; done) | (simp; omega)) _ | with_reducible refine Ext.next ?_ (by with_reducible assumption)))⟩
        case measure => simp [intOf]; omega
    · obtain rfl : j = ops.length := by omega
      have HT := hid (show ops.take ops.length = ops from List.take_length)
      go_wp2
      go_ret
      exact ⟨ret_int (by rw [HT.out]), hext⟩

/-! ### the same -/
theorem op_ne {x y : Op5} (h : x ≠ y) : (x.kind == y.kind) = false ∨ ((x.kind == y.kind) = true ∧ ((x.x == y.x) = false ∨ ((x.x == y.x) = true ∧ ((x.y == y.y) = false ∨ ((x.y == y.y) = true ∧ ((x.k == y.k) = false ∨ ((x.k == y.k) = true ∧ (x.at_ == y.at_) = false))))))) := by
  obtain ⟨a0, a1, a2, a3, a4⟩ := x
  obtain ⟨b0, b1, b2, b3, b4⟩ := y
  simp only [beq_iff_eq, beq_eq_false_iff_ne, ne_eq, Op5.mk.injEq] at h ⊢
  omega
def opEq (x y : Op5) : Bool := x.kind == y.kind && (x.x == y.x && (x.y == y.y && (x.k == y.k && x.at_ == y.at_)))
theorem opEq_of {x y : Op5} (h : x = y) : opEq x y = true := by subst h; simp [opEq]
theorem opEq_not {x y : Op5} (h : x ≠ y) : opEq x y = false := by
  unfold opEq
  rcases op_ne h with h | ⟨h0, h | ⟨h1, h | ⟨h2, h | ⟨h3, h⟩⟩⟩⟩ <;> simp [*]
theorem neqOp (x y : Op5) (w : World) : Sem.run Try.prog (binOp .neq 59 (.agg #[.int .i64 x.kind, .int .i64 x.x, .int .i64 x.y, .int .i64 x.k, .int .i64 x.at_]) (.agg #[.int .i64 y.kind, .int .i64 y.x, .int .i64 y.y, .int .i64 y.k, .int .i64 y.at_])) w = .ok (.bool (!opEq x y)) w := by
  have hS : Try.prog.underlying 59 = some (.struct (Try.prog.fieldsOf 59)) := by kernel_rfl
  have hp : Try.prog.stoodInHeld 59 = false := by kernel_rfl
  have u := Try.underlying3
  have z := Try.sizeOf3
  rw [run_neq_struct, show (10000 : Nat) = 9999 + 1 from rfl, run_equalIn_agg w 9999 59 _ _ hS hp]
  simp only [Program.fieldsOf, Try.underlying59]
  go_simp
  unfold opEq
  by_cases h0 : x.kind = y.kind <;> by_cases h1 : x.x = y.x <;> by_cases h2 : x.y = y.y <;> by_cases h3 : x.k = y.k <;> by_cases h4 : x.at_ = y.at_ <;> simp [h0, h1, h2, h3, h4]
def Op5.tup (x : Op5) : Int × Int × Int × Int × Int := (x.kind, x.x, x.y, x.k, x.at_)
def opsEq (l l' : List Op5) : Bool := decide (l.map Op5.tup = l'.map Op5.tup)
theorem map_tup : ∀ {l l' : List Op5}, l.map Op5.tup = l'.map Op5.tup → l = l'
  | [], [], _ => rfl
  | [], _ :: _, h => by cases h
  | _ :: _, [], h => by cases h
  | x :: l, y :: l', h => by
    simp only [List.map_cons, List.cons.injEq] at h
    obtain ⟨h1, h2⟩ := h
    rw [map_tup h2]
    obtain ⟨a0, a1, a2, a3, a4⟩ := x
    obtain ⟨b0, b1, b2, b3, b4⟩ := y
    simp only [Op5.tup, Prod.mk.injEq] at h1
    obtain ⟨rfl, rfl, rfl, rfl, rfl⟩ := h1
    rfl
theorem opsEq_yes {l l' : List Op5} (h : l = l') : opsEq l l' = true := decide_eq_true (by rw [h])
theorem opsEq_no {l l' : List Op5} (h : l ≠ l') : opsEq l l' = false := decide_eq_false fun e => h (map_tup e)
/-- Two pieces of code are the same. -/
def irEq (a b : Bk) : Bool := a.pc == b.pc && (a.len == b.len && (a.end_ == b.end_ && (a.x == b.x && (a.y == b.y && (a.k == b.k && opsEq a.ops b.ops)))))
theorem irEq_dat {a a' b b' : Bk} (h : a.dat = a'.dat) (h' : b.dat = b'.dat) : irEq a b = irEq a' b' := by
  unfold Bk.dat at h h'
  simp only [Prod.mk.injEq] at h h'
  obtain ⟨h0, h1, h2, h3, h4, h5, h6⟩ := h
  obtain ⟨g0, g1, g2, g3, g4, g5, g6⟩ := h'
  unfold irEq
  rw [h0, h1, h2, h3, h4, h5, h6, g0, g1, g2, g3, g4, g5, g6]
theorem ext_of_at {l l' : List Op5} (hl : l.length = l'.length) (h : ∀ (t : Nat) (x y : Op5), l[t]? = some x → l'[t]? = some y → x = y) : l = l' := by
  apply List.ext_getElem hl
  intro t h1 h2
  exact h t _ _ (List.getElem?_eq_getElem h1) (List.getElem?_eq_getElem h2)
theorem ne_of_at {l l' : List Op5} {t : Nat} {x y : Op5} (hx : l[t]? = some x) (hy : l'[t]? = some y) (h : x ≠ y) : l ≠ l' := by
  rintro rfl
  rw [hx] at hy
  injection hy with hy
  exact h hy

set_option maxHeartbeats 1000000 in
theorem eqOps (A A' : Option Addr) (c c' n : Nat) (l l' : List Op5) (w : World) (h : ROp5 59 w A l) (h' : ROp5 59 w A' l') (hl : l.length = n) (hl' : l'.length = n) (hn : n < 4611686018427387904) :
    Calls Try.prog 44 #[.slice A n c, .slice A' n c'] w fun e w' => e = .returned (.bool (opsEq l l')) ∧ Ext w w' := by
  go_enter Try.func44, Try.ntmps44
  go_wp2
  go_loopw [5, 13] (fun _ i wr => ∃ j : Nat, j ≤ n ∧ i = .int .i64 j ∧ (∀ (t : Nat) (x y : Op5), t < j → l[t]? = some x → l'[t]? = some y → x = y) ∧ Ext w wr) (fun _ i _ => n - (intOf i).toNat)
  case atStart => exact ⟨0, Nat.zero_le _, rfl, (fun t _ _ ht => absurd ht (by omega)), (by repeat (first | with_reducible assumption | with_reducible exact Ext.refl _ | with_reducible apply Ext.drewN | with_reducible apply Ext.drew | with_reducible apply Ext.alloc | with_reducible refine Ext.set ?_ (by first | (simp; done) | (simp; omega)) _ | with_reducible refine Ext.next ?_ (by with_reducible assumption)))⟩
  case round =>
    obtain ⟨j, hj, rfl, hall, hext⟩ := hrel
    by_cases hlt : j < n
    · obtain ⟨b, o, x, rfl, hb, hx, hc0, hc1, hc2, hc3, hc4⟩ := (h.ext hext).at_ (i := j) (by omega)
      obtain ⟨b', o', y, rfl, hb', hy, hd0, hd1, hd2, hd3, hd4⟩ := (h'.ext hext).at_ (i := j) (by omega)
      have HX := hid hx
      have HY := hid hy
      have HA := hid hall
      by_cases e : x = y
      · have E := hid e
        have hne : ∀ w, Sem.run Try.prog (binOp .neq 59 (.agg #[.int .i64 x.kind, .int .i64 x.x, .int .i64 x.y, .int .i64 x.k, .int .i64 x.at_]) (.agg #[.int .i64 y.kind, .int .i64 y.x, .int .i64 y.y, .int .i64 y.k, .int .i64 y.at_])) w = .ok (.bool false) w := fun w => by rw [neqOp, opEq_of e]; rfl
        clear hx hy hall e h h'
        go_wp2
        refine wp_region_over (by kernel_rfl) (by kernel_rfl) ?_
        repeat (go_big_quiet_step (fail))
        refine wpQuiet_nil ?_
        rintro _ ⟨⟨wq, hwq⟩, rfl⟩
        go_wp2
        go_roundw
        case rel =>
          refine ⟨j + 1, by omega, by go_num, fun t x' y' ht hx' hy' => ?_, (by repeat (first | with_reducible assumption | with_reducible exact Ext.refl _ | with_reducible apply Ext.drewN | with_reducible apply Ext.drew | with_reducible apply Ext.alloc | with_reducible refine Ext.set ?_ (by first | (simp; done) | (simp; omega)) _ | with_reducible refine Ext.next ?_ (by with_reducible assumption)))⟩
          rcases Nat.lt_or_ge t j with h1 | h1
          · exact HA.out t x' y' h1 hx' hy'
          · obtain rfl : t = j := by omega
            rw [HX.out] at hx'
            rw [HY.out] at hy'
            injection hx' with hx'
            injection hy' with hy'
            rw [← hx', ← hy']
            exact E.out
        case measure => simp [intOf]; omega
      · have E := hid (opsEq_no (ne_of_at hx hy e))
        have hne : ∀ w, Sem.run Try.prog (binOp .neq 59 (.agg #[.int .i64 x.kind, .int .i64 x.x, .int .i64 x.y, .int .i64 x.k, .int .i64 x.at_]) (.agg #[.int .i64 y.kind, .int .i64 y.x, .int .i64 y.y, .int .i64 y.k, .int .i64 y.at_])) w = .ok (.bool true) w := fun w => by rw [neqOp, opEq_not e]; rfl
        clear hx hy hall e h h'
        go_wp2
        refine wp_region_over (by kernel_rfl) (by kernel_rfl) ?_
        repeat (go_big_quiet_step (fail))
        refine wpQuiet_nil ?_
        rintro _ ⟨⟨wq, hwq⟩, rfl⟩
        go_wp2
        go_ret
        exact ⟨ret_bool (by rw [E.out]), (by repeat (first | with_reducible assumption | with_reducible exact Ext.refl _ | with_reducible apply Ext.drewN | with_reducible apply Ext.drew | with_reducible apply Ext.alloc | with_reducible refine Ext.set ?_ (by first | (simp; done) | (simp; omega)) _ | with_reducible refine Ext.next ?_ (by with_reducible assumption)))⟩
    · have E := hid (opsEq_yes (ext_of_at (hl.trans hl'.symm) fun t x y hx hy => hall t x y (by have := (List.getElem?_eq_some_iff.1 hx).1; omega) hx hy))
      clear hall
      go_wp2
      go_ret
      exact ⟨ret_bool E.out.symm, (by repeat (first | with_reducible assumption | with_reducible exact Ext.refl _ | with_reducible apply Ext.drewN | with_reducible apply Ext.drew | with_reducible apply Ext.alloc | with_reducible refine Ext.set ?_ (by first | (simp; done) | (simp; omega)) _ | with_reducible refine Ext.next ?_ (by with_reducible assumption)))⟩
theorem eqOps_len (A A' : Option Addr) (c c' n n' : Nat) (w : World) (hn : n ≠ n') :
    Calls Try.prog 44 #[.slice A n c, .slice A' n' c'] w fun e w' => e = .returned (.bool false) ∧ Ext w w' := by
  have h1 : ((n : Int) == n') = false := by rw [beq_eq_false_iff_ne]; omega
  have h2 : ((n : Int) != n') = true := by rw [bne_iff_ne]; omega
  go_enter Try.func44, Try.ntmps44
  go_wp2
  go_ret
  exact ⟨rfl, (by repeat (first | with_reducible assumption | with_reducible exact Ext.refl _ | with_reducible apply Ext.drewN | with_reducible apply Ext.drew | with_reducible apply Ext.alloc | with_reducible refine Ext.set ?_ (by first | (simp; done) | (simp; omega)) _ | with_reducible refine Ext.next ?_ (by with_reducible assumption)))⟩
set_option maxHeartbeats 1000000 in
theorem implIrSame (a b : Bk) (w : World) (h : RBk 59 w a) (h' : RBk 59 w b) (hn : a.ops.length < 4611686018427387904) :
    Calls Try.prog 21 #[a.val, b.val] w fun e w' => e = .returned (.bool (irEq a b)) ∧ Ext w w' := by
  obtain ⟨pc, len, A, c, ops, end_, x, y, k⟩ := a
  obtain ⟨pc', len', A', c', ops', end', x', y', k'⟩ := b
  unfold RBk at h h'
  unfold Bk.val Bk.cells irEq
  simp only at h h' hn ⊢
  cases e0 : pc == pc'
  · have hbn : (pc != pc') = true := by simp only [bne, e0]; rfl
    clear h h'
    go_enter Try.func21, Try.ntmps21
    go_wp2
    go_ret
    exact ⟨rfl, (by repeat (first | with_reducible assumption | with_reducible exact Ext.refl _ | with_reducible apply Ext.drewN | with_reducible apply Ext.drew | with_reducible apply Ext.alloc | with_reducible refine Ext.set ?_ (by first | (simp; done) | (simp; omega)) _ | with_reducible refine Ext.next ?_ (by with_reducible assumption)))⟩
  have ne0 : (pc != pc') = false := by simp only [bne, e0]; rfl
  cases e1 : len == len'
  · have hbn : (len != len') = true := by simp only [bne, e1]; rfl
    clear h h'
    go_enter Try.func21, Try.ntmps21
    go_wp2
    go_ret
    exact ⟨rfl, (by repeat (first | with_reducible assumption | with_reducible exact Ext.refl _ | with_reducible apply Ext.drewN | with_reducible apply Ext.drew | with_reducible apply Ext.alloc | with_reducible refine Ext.set ?_ (by first | (simp; done) | (simp; omega)) _ | with_reducible refine Ext.next ?_ (by with_reducible assumption)))⟩
  have ne1 : (len != len') = false := by simp only [bne, e1]; rfl
  cases e2 : end_ == end'
  · have hbn : (end_ != end') = true := by simp only [bne, e2]; rfl
    clear h h'
    go_enter Try.func21, Try.ntmps21
    go_wp2
    go_ret
    exact ⟨rfl, (by repeat (first | with_reducible assumption | with_reducible exact Ext.refl _ | with_reducible apply Ext.drewN | with_reducible apply Ext.drew | with_reducible apply Ext.alloc | with_reducible refine Ext.set ?_ (by first | (simp; done) | (simp; omega)) _ | with_reducible refine Ext.next ?_ (by with_reducible assumption)))⟩
  have ne2 : (end_ != end') = false := by simp only [bne, e2]; rfl
  cases e3 : x == x'
  · have hbn : (x != x') = true := by simp only [bne, e3]; rfl
    clear h h'
    go_enter Try.func21, Try.ntmps21
    go_wp2
    go_ret
    exact ⟨rfl, (by repeat (first | with_reducible assumption | with_reducible exact Ext.refl _ | with_reducible apply Ext.drewN | with_reducible apply Ext.drew | with_reducible apply Ext.alloc | with_reducible refine Ext.set ?_ (by first | (simp; done) | (simp; omega)) _ | with_reducible refine Ext.next ?_ (by with_reducible assumption)))⟩
  have ne3 : (x != x') = false := by simp only [bne, e3]; rfl
  cases e4 : y == y'
  · have hbn : (y != y') = true := by simp only [bne, e4]; rfl
    clear h h'
    go_enter Try.func21, Try.ntmps21
    go_wp2
    go_ret
    exact ⟨rfl, (by repeat (first | with_reducible assumption | with_reducible exact Ext.refl _ | with_reducible apply Ext.drewN | with_reducible apply Ext.drew | with_reducible apply Ext.alloc | with_reducible refine Ext.set ?_ (by first | (simp; done) | (simp; omega)) _ | with_reducible refine Ext.next ?_ (by with_reducible assumption)))⟩
  have ne4 : (y != y') = false := by simp only [bne, e4]; rfl
  cases e5 : k == k'
  · have hbn : (k != k') = true := by simp only [bne, e5]; rfl
    clear h h'
    go_enter Try.func21, Try.ntmps21
    go_wp2
    go_ret
    exact ⟨rfl, (by repeat (first | with_reducible assumption | with_reducible exact Ext.refl _ | with_reducible apply Ext.drewN | with_reducible apply Ext.drew | with_reducible apply Ext.alloc | with_reducible refine Ext.set ?_ (by first | (simp; done) | (simp; omega)) _ | with_reducible refine Ext.next ?_ (by with_reducible assumption)))⟩
  have ne5 : (k != k') = false := by simp only [bne, e5]; rfl
  simp only [Bool.true_and]
  by_cases hl : ops.length = ops'.length
  · have HL := hid hl
    go_enter Try.func21, Try.ntmps21
    go_wp2_with fail
    rw [← HL.out]
    refine (eqOps _ _ _ _ ops.length ops ops' _ (h.ext (by repeat (first | with_reducible assumption | with_reducible exact Ext.refl _ | with_reducible apply Ext.drewN | with_reducible apply Ext.drew | with_reducible apply Ext.alloc | with_reducible refine Ext.set ?_ (by first | (simp; done) | (simp; omega)) _ | with_reducible refine Ext.next ?_ (by with_reducible assumption)))) (h'.ext (by repeat (first | with_reducible assumption | with_reducible exact Ext.refl _ | with_reducible apply Ext.drewN | with_reducible apply Ext.drew | with_reducible apply Ext.alloc | with_reducible refine Ext.set ?_ (by first | (simp; done) | (simp; omega)) _ | with_reducible refine Ext.next ?_ (by with_reducible assumption)))) rfl HL.out.symm hn).mono ?_
    rintro e w1 ⟨rfl, hw1⟩
    go_wp2
    go_ret
    exact ⟨rfl, (by repeat (first | with_reducible assumption | with_reducible exact Ext.refl _ | with_reducible apply Ext.drewN | with_reducible apply Ext.drew | with_reducible apply Ext.alloc | with_reducible refine Ext.set ?_ (by first | (simp; done) | (simp; omega)) _ | with_reducible refine Ext.next ?_ (by with_reducible assumption)))⟩
  · have E : Hid (opsEq ops ops' = false) := hid (opsEq_no fun e => hl (by rw [e]))
    have HL := hid hl
    clear hl
    rw [E.out]
    go_enter Try.func21, Try.ntmps21
    go_wp2_with fail
    refine (eqOps_len _ _ _ _ _ _ _ HL.out).mono ?_
    rintro e w1 ⟨rfl, hw1⟩
    go_wp2
    go_ret
    exact ⟨rfl, (by repeat (first | with_reducible assumption | with_reducible exact Ext.refl _ | with_reducible apply Ext.drewN | with_reducible apply Ext.drew | with_reducible apply Ext.alloc | with_reducible refine Ext.set ?_ (by first | (simp; done) | (simp; omega)) _ | with_reducible refine Ext.next ?_ (by with_reducible assumption)))⟩

set_option maxHeartbeats 1000000 in
theorem specIrSame (a b : Bk) (w : World) (h : RBk 59 w a) (h' : RBk 59 w b) (hn : a.ops.length < 4611686018427387904) :
    Calls Try.prog 20 #[a.val, b.val] w fun e w' => e = .returned (.bool (irEq a b)) ∧ Ext w w' := by
  obtain ⟨pc, len, A, c, ops, end_, x, y, k⟩ := a
  obtain ⟨pc', len', A', c', ops', end', x', y', k'⟩ := b
  unfold RBk at h h'
  unfold Bk.val Bk.cells irEq
  simp only at h h' hn ⊢
  cases e0 : pc == pc'
  · have hbn : (pc != pc') = true := by simp only [bne, e0]; rfl
    clear h h'
    go_enter Try.func20, Try.ntmps20
    go_wp2
    go_ret
    exact ⟨rfl, (by repeat (first | with_reducible assumption | with_reducible exact Ext.refl _ | with_reducible apply Ext.drewN | with_reducible apply Ext.drew | with_reducible apply Ext.alloc | with_reducible refine Ext.set ?_ (by first | (simp; done) | (simp; omega)) _ | with_reducible refine Ext.next ?_ (by with_reducible assumption)))⟩
  have ne0 : (pc != pc') = false := by simp only [bne, e0]; rfl
  cases e1 : len == len'
  · have hbn : (len != len') = true := by simp only [bne, e1]; rfl
    clear h h'
    go_enter Try.func20, Try.ntmps20
    go_wp2
    go_ret
    exact ⟨rfl, (by repeat (first | with_reducible assumption | with_reducible exact Ext.refl _ | with_reducible apply Ext.drewN | with_reducible apply Ext.drew | with_reducible apply Ext.alloc | with_reducible refine Ext.set ?_ (by first | (simp; done) | (simp; omega)) _ | with_reducible refine Ext.next ?_ (by with_reducible assumption)))⟩
  have ne1 : (len != len') = false := by simp only [bne, e1]; rfl
  cases e2 : end_ == end'
  · have hbn : (end_ != end') = true := by simp only [bne, e2]; rfl
    clear h h'
    go_enter Try.func20, Try.ntmps20
    go_wp2
    go_ret
    exact ⟨rfl, (by repeat (first | with_reducible assumption | with_reducible exact Ext.refl _ | with_reducible apply Ext.drewN | with_reducible apply Ext.drew | with_reducible apply Ext.alloc | with_reducible refine Ext.set ?_ (by first | (simp; done) | (simp; omega)) _ | with_reducible refine Ext.next ?_ (by with_reducible assumption)))⟩
  have ne2 : (end_ != end') = false := by simp only [bne, e2]; rfl
  cases e3 : x == x'
  · have hbn : (x != x') = true := by simp only [bne, e3]; rfl
    clear h h'
    go_enter Try.func20, Try.ntmps20
    go_wp2
    go_ret
    exact ⟨rfl, (by repeat (first | with_reducible assumption | with_reducible exact Ext.refl _ | with_reducible apply Ext.drewN | with_reducible apply Ext.drew | with_reducible apply Ext.alloc | with_reducible refine Ext.set ?_ (by first | (simp; done) | (simp; omega)) _ | with_reducible refine Ext.next ?_ (by with_reducible assumption)))⟩
  have ne3 : (x != x') = false := by simp only [bne, e3]; rfl
  cases e4 : y == y'
  · have hbn : (y != y') = true := by simp only [bne, e4]; rfl
    clear h h'
    go_enter Try.func20, Try.ntmps20
    go_wp2
    go_ret
    exact ⟨rfl, (by repeat (first | with_reducible assumption | with_reducible exact Ext.refl _ | with_reducible apply Ext.drewN | with_reducible apply Ext.drew | with_reducible apply Ext.alloc | with_reducible refine Ext.set ?_ (by first | (simp; done) | (simp; omega)) _ | with_reducible refine Ext.next ?_ (by with_reducible assumption)))⟩
  have ne4 : (y != y') = false := by simp only [bne, e4]; rfl
  cases e5 : k == k'
  · have hbn : (k != k') = true := by simp only [bne, e5]; rfl
    clear h h'
    go_enter Try.func20, Try.ntmps20
    go_wp2
    go_ret
    exact ⟨rfl, (by repeat (first | with_reducible assumption | with_reducible exact Ext.refl _ | with_reducible apply Ext.drewN | with_reducible apply Ext.drew | with_reducible apply Ext.alloc | with_reducible refine Ext.set ?_ (by first | (simp; done) | (simp; omega)) _ | with_reducible refine Ext.next ?_ (by with_reducible assumption)))⟩
  have ne5 : (k != k') = false := by simp only [bne, e5]; rfl
  simp only [Bool.true_and]
  by_cases hl : ops.length = ops'.length
  · have HL := hid hl
    have h1 : ((ops.length : Int) == ops'.length) = true := by rw [beq_iff_eq]; omega
    have h2 : ((ops.length : Int) != ops'.length) = false := by rw [bne_eq_false_iff_eq]; omega
    go_enter Try.func20, Try.ntmps20
    go_wp2
    go_loopw [5] (fun i wr => ∃ j : Nat, j ≤ ops.length ∧ i = .int .i64 j ∧ (∀ (t : Nat) (x y : Op5), t < j → ops[t]? = some x → ops'[t]? = some y → x = y) ∧ wr.cell? ⟨w.heap.size, 2, none⟩ = some (.slice A ops.length c) ∧ wr.cell? ⟨w.heap.size + 1, 2, none⟩ = some (.slice A' ops'.length c') ∧ Ext w wr) (fun i _ => ops.length - (intOf i).toNat)
    case atStart => exact ⟨0, Nat.zero_le _, rfl, (fun t _ _ ht => absurd ht (by omega)), by go_simp, by go_simp, (by repeat (first | with_reducible assumption | with_reducible exact Ext.refl _ | with_reducible apply Ext.drewN | with_reducible apply Ext.drew | with_reducible apply Ext.alloc | with_reducible refine Ext.set ?_ (by first | (simp; done) | (simp; omega)) _ | with_reducible refine Ext.next ?_ (by with_reducible assumption)))⟩
    case round =>
      obtain ⟨j, hj, rfl, hall, b0, b1, hext⟩ := hrel
      have hb0 := World.block_lt_of_cell? _ _ b0
      have hb1 := World.block_lt_of_cell? _ _ b1
      simp only at hb0 hb1
      by_cases hlt : j < ops.length
      · have hlt' : j < ops'.length := by omega
        obtain ⟨b, o, x, rfl, hb, hx, hc0, hc1, hc2, hc3, hc4⟩ := (h.ext hext).at_ (i := j) hlt
        obtain ⟨b', o', y, rfl, hb', hy, hd0, hd1, hd2, hd3, hd4⟩ := (h'.ext hext).at_ (i := j) hlt'
        have HX := hid hx
        have HY := hid hy
        have HA := hid hall
        by_cases e : x = y
        · have E := hid e
          have hne : ∀ w, Sem.run Try.prog (binOp .neq 59 (.agg #[.int .i64 x.kind, .int .i64 x.x, .int .i64 x.y, .int .i64 x.k, .int .i64 x.at_]) (.agg #[.int .i64 y.kind, .int .i64 y.x, .int .i64 y.y, .int .i64 y.k, .int .i64 y.at_])) w = .ok (.bool false) w := fun w => by rw [neqOp, opEq_of e]; rfl
          clear hx hy hall e h h'
          go_wp2
          refine wp_region_over (by kernel_rfl) (by kernel_rfl) ?_
          repeat (go_big_quiet_step (fail))
          refine wpQuiet_nil ?_
          rintro _ ⟨⟨wq, hwq⟩, rfl⟩
          go_wp2
          go_roundw
          case rel =>
            refine ⟨j + 1, by omega, by go_num, fun t x' y' ht hx' hy' => ?_, by (repeat (first | with_reducible assumption | with_reducible refine keep (Ext.alloc (Ext.refl _) _) ?_ | with_reducible refine keep (Ext.drew (Ext.refl _)) ?_ | with_reducible refine keep (Ext.drewN (Ext.refl _) _) ?_ | with_reducible refine keep (by with_reducible assumption) ?_)); done, by (repeat (first | with_reducible assumption | with_reducible refine keep (Ext.alloc (Ext.refl _) _) ?_ | with_reducible refine keep (Ext.drew (Ext.refl _)) ?_ | with_reducible refine keep (Ext.drewN (Ext.refl _) _) ?_ | with_reducible refine keep (by with_reducible assumption) ?_)); done, (by repeat (first | with_reducible assumption | with_reducible exact Ext.refl _ | with_reducible apply Ext.drewN | with_reducible apply Ext.drew | with_reducible apply Ext.alloc | with_reducible refine Ext.set ?_ (by first | (simp; done) | (simp; omega)) _ | with_reducible refine Ext.next ?_ (by with_reducible assumption)))⟩
            rcases Nat.lt_or_ge t j with h1 | h1
            · exact HA.out t x' y' h1 hx' hy'
            · obtain rfl : t = j := by omega
              rw [HX.out] at hx'
              rw [HY.out] at hy'
              injection hx' with hx'
              injection hy' with hy'
              rw [← hx', ← hy']
              exact E.out
          case measure => simp [intOf]; omega
        · have E := hid (opsEq_no (ne_of_at hx hy e))
          have hne : ∀ w, Sem.run Try.prog (binOp .neq 59 (.agg #[.int .i64 x.kind, .int .i64 x.x, .int .i64 x.y, .int .i64 x.k, .int .i64 x.at_]) (.agg #[.int .i64 y.kind, .int .i64 y.x, .int .i64 y.y, .int .i64 y.k, .int .i64 y.at_])) w = .ok (.bool true) w := fun w => by rw [neqOp, opEq_not e]; rfl
          clear hx hy hall e h h'
          go_wp2
          refine wp_region_over (by kernel_rfl) (by kernel_rfl) ?_
          repeat (go_big_quiet_step (fail))
          refine wpQuiet_nil ?_
          rintro _ ⟨⟨wq, hwq⟩, rfl⟩
          go_wp2
          go_ret
          exact ⟨ret_bool (by rw [E.out]), (by repeat (first | with_reducible assumption | with_reducible exact Ext.refl _ | with_reducible apply Ext.drewN | with_reducible apply Ext.drew | with_reducible apply Ext.alloc | with_reducible refine Ext.set ?_ (by first | (simp; done) | (simp; omega)) _ | with_reducible refine Ext.next ?_ (by with_reducible assumption)))⟩
      · have E := hid (opsEq_yes (ext_of_at hl fun t x y hx hy => hall t x y (by have := (List.getElem?_eq_some_iff.1 hx).1; omega) hx hy))
        clear hall
        go_wp2
        go_ret
        exact ⟨ret_bool E.out.symm, (by repeat (first | with_reducible assumption | with_reducible exact Ext.refl _ | with_reducible apply Ext.drewN | with_reducible apply Ext.drew | with_reducible apply Ext.alloc | with_reducible refine Ext.set ?_ (by first | (simp; done) | (simp; omega)) _ | with_reducible refine Ext.next ?_ (by with_reducible assumption)))⟩
  · have E : Hid (opsEq ops ops' = false) := hid (opsEq_no fun e => hl (by rw [e]))
    have h1 : ((ops.length : Int) == ops'.length) = false := by rw [beq_eq_false_iff_ne]; omega
    have h2 : ((ops.length : Int) != ops'.length) = true := by rw [bne_iff_ne]; omega
    rw [E.out]
    go_enter Try.func20, Try.ntmps20
    go_wp2
    go_ret
    exact ⟨rfl, (by repeat (first | with_reducible assumption | with_reducible exact Ext.refl _ | with_reducible apply Ext.drewN | with_reducible apply Ext.drew | with_reducible apply Ext.alloc | with_reducible refine Ext.set ?_ (by first | (simp; done) | (simp; omega)) _ | with_reducible refine Ext.next ?_ (by with_reducible assumption)))⟩
end Go.Proofs.Ytpmipopeoiojjaa
