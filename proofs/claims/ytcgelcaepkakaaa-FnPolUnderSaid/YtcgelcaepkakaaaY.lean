/- Contracts of the library's Grow, Concat and Sort, at ints and at parts of sums. Conditions: lengths that a machine can hold; what is sorted has at most 12 numbers. -/
import Derived.Test.YtcgelcaepkakaaaS7
import Derived.Test.YtcgelcaepkakaaaU
import Derived.Test.YtcgelcaepkakaaaYB
namespace Go.Proofs.Ytcgelcaepkakaaa
open Go Go.RowKit
set_option linter.unusedVariables false
set_option linter.unusedSimpArgs false

/-- 'append(nil, make([]E, n)...)'. -/
theorem wpList_append_zeros {P : Program} {w : World} {ops : Array Oper} {rest : List Oper} {o : Oper} {a : Act} {Q : Exit → Act → World → Prop} (hgd : o.guard = none) (s x : Operand) (t u : TypeId)
    (ho : o.op = .call { callee := .builtin .append, args := #[s, x], argTypes := #[t, u] })
    (e : TypeId) (z : Value) (size bytes : Nat) (ht : P.underlying t = some (.slice e)) (hu : P.underlying u = some (.int .i64)) (hinf : (P.info? e).map (fun i => (i.zero, i.size, i.bytes)) = some (some z, size, bytes))
    (hzs : z.cells.size = size) (hsz : 0 < size) (n lo : Nat) (hs : a.eval s = .slice none 0 0) (hx : a.eval x = .int .i64 n) (h0 : 0 < n) (hb : n * bytes ≤ 140737488355328) (hn : n < 1099511627776) (hlo : lo ≤ w.heap.size)
    (h : ∀ cap w', w'.ownsRow lo e size (.slice (some ⟨w.heap.size, 0, none⟩) 0 cap) 0 [] → Ext w w' → wpList P ops Q rest (a.put o.dst (.slice (some ⟨w.heap.size, 0, none⟩) n cap)) w') : wpList P ops Q (o :: rest) a w := by
  obtain ⟨i, hi, hz, hz1, hz2⟩ := info_parts hinf
  refine wpList_plain hgd fun K hK => ?_
  subst hz1 hz2
  have hge := grownCap_ge w n 0 e
  have hcm : grownCap w n 0 e ≤ maxLen := grownCap_le_maxLen w n 0 e (by unfold maxLen; omega)
  have hn0 : n ≠ 0 := by omega
  have hnn : n * i.size ≠ 0 := by
    have := Nat.mul_pos h0 hsz
    omega
  have h63' : ¬ (9223372036854775807 < (n : Int)) := by omega
  have hw : IntKind.i64.wrap (n : Int) = n := by rw [IntKind.wrap_i64]; omega
  have hneg : ¬ ((n : Int) < 0) := by omega
  have hbi : ¬ (281474976710656 < (n : Int) * (i.bytes : Int)) := by
    have : ((n * i.bytes : Nat) : Int) ≤ 140737488355328 := by omega
    rw [Int.natCast_mul] at this
    omega
  have h48' : ¬ (281474976710656 < Builtin.nextslicecap n 0 * i.bytes) := by rw [nextslicecap_zero h0]; omega
  have hai : ∀ w' : World, Sem.run P (asIntOf (.int .i64 (n : Int))) w' = .ok (.i64, (n : Int)) w' := fun _ => rfl
  have hrun : (Builtin.append_ #[t, u] o.type #[.slice none 0 0, .int .i64 n]).run P w = .ok (.slice (some ⟨w.heap.size, 0, none⟩) n (grownCap w n 0 e)) (w.drew.alloc (.cells (Builtin.zeroCells z.cells n ++ Builtin.zeroCells z.cells (grownCap w n 0 e - n)) e)) := by
    simp [Builtin.append_, run_underlying ht, run_underlying hu, sizeOf, typeInfo, zeroValue, hi, hz, hn0, hnn, hw, hneg, hbi, h63', h48', asInt, hai, Question.forced, run_firstCells_none, newRow, grownCap]
  unfold Oper.wp
  simp [execOp, ho, resolve, invoke, builtin, hs, hx, hrun, Result.andThen]
  refine hK _ _ (h _ _ ?_ ((Ext.refl w).drew.alloc _))
  refine ⟨by simp, .inr ⟨w.heap.size, _, _, rfl, hlo, heap_alloc_new w.drew _, Nat.zero_le _, hcm, ?_, by simp⟩⟩
  rw [Array.size_append, size_zeroCells, size_zeroCells, hzs, ← Nat.add_mul]
  congr 1
  omega

/-- What Grow gives: an empty row of the call's own. -/
def RetG (T size : Nat) (w : World) (e : Ending) (w' : World) : Prop := ∃ A k, e = .returned (.slice A 0 k) ∧ w'.ownsRow w.heap.size T size (.slice A 0 k) 0 [] ∧ Ext w w'

theorem growM (n : Nat) (w : World) (hn : n < 1099511627776) : Calls Try.prog 108 #[.slice none 0 0, .int .i64 n] w (RetG 73 2 w) := by
  by_cases h0 : 0 < n
  · go_enter Try.func108, Try.ntmps108
    go_wp2_with ((refine wpList_append_zeros rfl _ _ _ _ rfl 73 _ 2 32 Try.underlying23 Try.underlying3 info_mono rfl (by decide) n w.heap.size rfl rfl h0 (by omega) hn (Nat.le_refl _) ?_); (intro cap w1 ho hE))
    go_ret
    exact ⟨_, _, rfl, ho, hE⟩
  · obtain rfl : n = 0 := by omega
    go_enter Try.func108, Try.ntmps108
    go_wp2
    go_ret
    exact ⟨none, 0, rfl, World.ownsRow_nil _ _ _ _, Ext.refl _⟩

theorem growI (n : Nat) (w : World) (hn : n < 1099511627776) : Calls Try.prog 97 #[.slice none 0 0, .int .i64 n] w (RetG 3 1 w) := by
  by_cases h0 : 0 < n
  · go_enter Try.func97, Try.ntmps97
    go_wp2_with ((refine wpList_append_zeros rfl _ _ _ _ rfl 3 _ 1 8 Try.underlying28 Try.underlying3 info_int rfl (by decide) n w.heap.size rfl rfl h0 (by omega) hn (Nat.le_refl _) ?_); (intro cap w1 ho hE))
    go_ret
    exact ⟨_, _, rfl, ho, hE⟩
  · obtain rfl : n = 0 := by omega
    go_enter Try.func97, Try.ntmps97
    go_wp2
    go_ret
    exact ⟨none, 0, rfl, World.ownsRow_nil _ _ _ _, Ext.refl _⟩

/-- A new row of parts. -/
def RetL (TM TI : TypeId) (w : World) (ms : List Mn) (e : Ending) (w' : World) : Prop := ∃ A k, e = .returned (.slice A ms.length k) ∧ LM TM TI w' w.heap.size A k ms ∧ Ext w w'

set_option maxHeartbeats 400000 in
theorem concatM (g k : Nat) (A1 A2 : Option Addr) (k1 k2 : Nat) (ms1 ms2 : List Mn) (w : World) (h1 : RN 73 3 w A1 k1 ms1) (h2 : RN 73 3 w A2 k2 ms2)
    (c0 : w.cell? ⟨g, 0, none⟩ = some (.slice A1 ms1.length k1)) (c1 : w.cell? ⟨g, 1, none⟩ = some (.slice A2 ms2.length k2)) (n1 : ms1.length < 137438953472) (n2 : ms2.length < 137438953472) :
    Calls Try.prog 78 #[.slice (some ⟨g, 0, none⟩) 2 k] w (RetL 73 3 w (ms1 ++ ms2)) := by
  have hg := World.block_lt_of_cell? _ _ c0
  simp only at hg
  go_enter Try.func78, Try.ntmps78
  go_wp2
  go_loop [3, 5, 11] (fun sz s i => (i = .int .i64 0 ∧ sz = .int .i64 0) ∨ (i = .int .i64 1 ∧ sz = .int .i64 ms1.length) ∨ (i = .int .i64 2 ∧ sz = .int .i64 ((ms1.length : Int) + ms2.length))) (fun _ _ i => 2 - (intOf i).toNat)
  case atStart => exact .inl ⟨rfl, rfl⟩
  case round =>
    rcases hrel with ⟨rfl, rfl⟩ | ⟨rfl, rfl⟩ | ⟨rfl, rfl⟩
    · go_wp2
      go_round
      case rel => exact .inr (.inl ⟨rfl, by go_num⟩)
      case measure => simp [intOf]
    · go_wp2
      go_round
      case rel => exact .inr (.inr ⟨rfl, by go_num⟩)
      case measure => simp [intOf]
    · go_wp2_with fail
      refine (growM (ms1.length + ms2.length) _ (by omega)).mono ?_
      rintro e w1 ⟨A, ka, rfl, ho, hE⟩
      have HO : Hid (LM 73 3 w1 w.heap.size A ka []) := hid ⟨ho, fun _ h => by cases h⟩
      have HE := hid hE
      clear ho hE
      go_wp2
      go_loopw [6, 8, 27] (fun v s i wr => ∃ (A : Option Addr) (k n : Nat) (ms : List Mn), ((i = .int .i64 0 ∧ ms = [] ∧ n = 0) ∨ (i = .int .i64 1 ∧ ms1 = ms ∧ n = ms1.length) ∨ (i = .int .i64 2 ∧ ms = ms1 ++ ms2 ∧ n = ms1.length + ms2.length)) ∧ v = .slice A n k ∧ LM 73 3 wr w.heap.size A k ms ∧ Ext w wr) (fun _ _ i _ => 2 - (intOf i).toNat)
      case atStart => exact ⟨A, ka, 0, [], .inl ⟨rfl, rfl, rfl⟩, rfl, HO.out, HE.out⟩
      case round =>
        clear HO HE
        obtain ⟨A, ka, n, ms, hi, rfl, ho, hext⟩ := hrel
        have c0' := keep hext c0
        have c1' := keep hext c1
        have hg' := lt_ext hext hg
        have h1' := h1.ext hext
        have h2' := h2.ext hext
        have hsz := hext.size
        clear h1 h2 c0 c1 hg
        rcases hi with ⟨rfl, rfl, rfl⟩ | ⟨rfl, rfl, rfl⟩ | ⟨rfl, rfl, rfl⟩
        · go_wp2_with (at_builtin; (refine app_monos (by decide) Try.underlying23 info_mono rfl _ _ rfl w.heap.size A ka [] ho 0 rfl rfl A1 k1 ms1 ms1.length rfl rfl h1' ms1.length (by omega) (by omega) hsz ?_); (intro A' k' w2 ho2 hu2))
          have HO2 := hid ho2
          have HE2 := hid (((Upd.of_ext hext).next hu2).ext fun b hb => (own_atB ho.1 hb).1)
          clear ho2 hu2 ho
          go_wp2
          go_roundw
          case rel => exact ⟨A', k', _, ms1, .inr (.inl ⟨rfl, rfl, by simp⟩), rfl, HO2.out, HE2.out⟩
          case measure => simp [intOf]
        · go_wp2_with (at_builtin; (refine app_monos (by decide) Try.underlying23 info_mono rfl _ _ rfl w.heap.size A ka ms1 ho ms1.length rfl rfl A2 k2 ms2 ms2.length rfl rfl h2' (ms1.length + ms2.length) rfl (by omega) hsz ?_); (intro A' k' w2 ho2 hu2))
          have HO2 := hid ho2
          have HE2 := hid (((Upd.of_ext hext).next hu2).ext fun b hb => (own_atB ho.1 hb).1)
          clear ho2 hu2 ho
          go_wp2
          go_roundw
          case rel => exact ⟨A', k', _, ms1 ++ ms2, .inr (.inr ⟨rfl, rfl, by simp⟩), rfl, HO2.out, HE2.out⟩
          case measure => simp [intOf]
        · have HO2 := hid ho
          clear ho
          go_wp2
          go_ret
          exact ⟨A, ka, by simp, HO2.out, hext⟩

/-- Ints that read; what is at no address has no room. -/
def RK (TI : TypeId) (w : World) (A : Option Addr) (k : Nat) (xs : List Int) : Prop := RI TI w A xs ∧ (A = none → k = 0)
theorem RK.ext {TI : TypeId} {w w' : World} {A : Option Addr} {k : Nat} {xs : List Int} (h : RK TI w A k xs) (he : Ext w w') : RK TI w' A k xs := ⟨h.1.ext he, h.2⟩
theorem OI.rk {TI : TypeId} {w : World} {lo k : Nat} {A : Option Addr} {xs : List Int} (h : OI TI w lo A k xs) : RK TI w A k xs := ⟨h.ri, own_nilOk h⟩
theorem RJ.rk {TI : TypeId} {w : World} {m : Mn} (h : RJ TI w m) : RK TI w m.A m.k m.xs := ⟨h.1, h.2.1⟩

set_option maxHeartbeats 400000 in
theorem concatI (g k : Nat) (A1 A2 : Option Addr) (k1 k2 : Nat) (xs1 xs2 : List Int) (w : World) (h1 : RK 3 w A1 k1 xs1) (h2 : RK 3 w A2 k2 xs2)
    (c0 : w.cell? ⟨g, 0, none⟩ = some (.slice A1 xs1.length k1)) (c1 : w.cell? ⟨g, 1, none⟩ = some (.slice A2 xs2.length k2)) (n1 : xs1.length < 137438953472) (n2 : xs2.length < 137438953472) :
    Calls Try.prog 57 #[.slice (some ⟨g, 0, none⟩) 2 k] w (RetI 3 w (xs1 ++ xs2)) := by
  have hg := World.block_lt_of_cell? _ _ c0
  simp only at hg
  go_enter Try.func57, Try.ntmps57
  go_wp2
  go_loop [3, 5, 11] (fun sz s i => (i = .int .i64 0 ∧ sz = .int .i64 0) ∨ (i = .int .i64 1 ∧ sz = .int .i64 xs1.length) ∨ (i = .int .i64 2 ∧ sz = .int .i64 ((xs1.length : Int) + xs2.length))) (fun _ _ i => 2 - (intOf i).toNat)
  case atStart => exact .inl ⟨rfl, rfl⟩
  case round =>
    rcases hrel with ⟨rfl, rfl⟩ | ⟨rfl, rfl⟩ | ⟨rfl, rfl⟩
    · go_wp2
      go_round
      case rel => exact .inr (.inl ⟨rfl, by go_num⟩)
      case measure => simp [intOf]
    · go_wp2
      go_round
      case rel => exact .inr (.inr ⟨rfl, by go_num⟩)
      case measure => simp [intOf]
    · go_wp2_with fail
      refine (growI (xs1.length + xs2.length) _ (by omega)).mono ?_
      rintro e w1 ⟨A, ka, rfl, ho, hE⟩
      have HO : Hid (OI 3 w1 w.heap.size A ka []) := hid ho
      have HE := hid hE
      clear ho hE
      go_wp2
      go_loopw [6, 8, 27] (fun v s i wr => ∃ (A : Option Addr) (k n : Nat) (xs : List Int), ((i = .int .i64 0 ∧ xs = [] ∧ n = 0) ∨ (i = .int .i64 1 ∧ xs1 = xs ∧ n = xs1.length) ∨ (i = .int .i64 2 ∧ xs = xs1 ++ xs2 ∧ n = xs1.length + xs2.length)) ∧ v = .slice A n k ∧ OI 3 wr w.heap.size A k xs ∧ Ext w wr) (fun _ _ i _ => 2 - (intOf i).toNat)
      case atStart => exact ⟨A, ka, 0, [], .inl ⟨rfl, rfl, rfl⟩, rfl, HO.out, HE.out⟩
      case round =>
        clear HO HE
        obtain ⟨A, ka, n, xs, hi, rfl, ho, hext⟩ := hrel
        have c0' := keep hext c0
        have c1' := keep hext c1
        have hg' := lt_ext hext hg
        have h1' := h1.ext hext
        have h2' := h2.ext hext
        have hsz := hext.size
        clear h1 h2 c0 c1 hg
        rcases hi with ⟨rfl, rfl, rfl⟩ | ⟨rfl, rfl, rfl⟩ | ⟨rfl, rfl, rfl⟩
        · go_wp2_with (at_builtin; (refine app_ints Try.underlying28 info_int rfl _ _ rfl w.heap.size A ka [] ho 0 rfl rfl A1 k1 xs1 xs1.length rfl rfl h1'.1 h1'.2 xs1.length (by omega) (by omega) hsz ?_); (intro A' k' w2 ho2 hu2))
          have HO2 := hid ho2
          have HE2 := hid (((Upd.of_ext hext).next hu2).ext fun b hb => (own_atB ho hb).1)
          clear ho2 hu2 ho
          go_wp2
          go_roundw
          case rel => exact ⟨A', k', _, xs1, .inr (.inl ⟨rfl, rfl, by simp⟩), rfl, HO2.out, HE2.out⟩
          case measure => simp [intOf]
        · go_wp2_with (at_builtin; (refine app_ints Try.underlying28 info_int rfl _ _ rfl w.heap.size A ka xs1 ho xs1.length rfl rfl A2 k2 xs2 xs2.length rfl rfl h2'.1 h2'.2 (xs1.length + xs2.length) rfl (by omega) hsz ?_); (intro A' k' w2 ho2 hu2))
          have HO2 := hid ho2
          have HE2 := hid (((Upd.of_ext hext).next hu2).ext fun b hb => (own_atB ho hb).1)
          clear ho2 hu2 ho
          go_wp2
          go_roundw
          case rel => exact ⟨A', k', _, xs1 ++ xs2, .inr (.inr ⟨rfl, rfl, by simp⟩), rfl, HO2.out, HE2.out⟩
          case measure => simp [intOf]
        · have HO2 := hid ho
          clear ho
          go_wp2
          go_ret
          exact ⟨A, ka, by simp, HO2.out, hext⟩

/-! ### sorting numbers -/
def keyI (xs : List Int) (i : Nat) : List Int := [xs.getD i 0]
theorem keyI_at {xs : List Int} {i : Nat} {x : Int} (h : xs[i]? = some x) : keyI xs i = [x] := by unfold keyI; rw [List.getD_eq_getElem?_getD, h]; rfl
theorem aOrd_one (a b : Int) : aOrd [a] [b] = if a < b then -1 else if b < a then 1 else 0 := by simp [aOrd, lexO]
theorem swpI_at {xs : List Int} {i j : Nat} {x y : Int} (hx : xs[i]? = some x) (hy : xs[j]? = some y) (t : Nat) : ((xs.set i y).set j x)[t]? = if t = j then xs[i]? else if t = i then xs[j]? else xs[t]? := by
  obtain ⟨hi, _⟩ := List.getElem?_eq_some_iff.1 hx
  obtain ⟨hj, _⟩ := List.getElem?_eq_some_iff.1 hy
  rw [List.getElem?_set]
  by_cases h1 : j = t
  · subst h1
    rw [if_pos rfl, if_pos (by rw [List.length_set]; exact hj), if_pos rfl, hx]
  · rw [if_neg h1, if_neg (by omega), List.getElem?_set]
    by_cases h2 : i = t
    · subst h2
      rw [if_pos rfl, if_pos hi, if_pos rfl, hy]
    · rw [if_neg h2, if_neg (by omega)]
theorem swpI_key {xs : List Int} {i j : Nat} {x y : Int} (hx : xs[i]? = some x) (hy : xs[j]? = some y) : SwpF (keyI xs) (keyI ((xs.set i y).set j x)) i j := fun t => by
  unfold keyI
  rw [List.getD_eq_getElem?_getD, swpI_at hx hy]
  split
  · rw [List.getD_eq_getElem?_getD]
  · split <;> rw [List.getD_eq_getElem?_getD]
theorem swpI_perm {xs : List Int} {i j : Nat} {x y : Int} (hx : xs[i]? = some x) (hy : xs[j]? = some y) : ((xs.set i y).set j x).Perm xs := by
  obtain ⟨hi, rfl⟩ := List.getElem?_eq_some_iff.1 hx
  obtain ⟨hj, rfl⟩ := List.getElem?_eq_some_iff.1 hy
  exact List.set_set_perm hi hj
theorem srtF_sorted : ∀ {xs : List Int}, SrtF (keyI xs) 0 xs.length → sortedB xs = true
  | [], _ => rfl
  | [a], _ => rfl
  | a :: b :: l, h => by
    rw [sortedB, Bool.and_eq_true]
    refine ⟨decide_eq_true ?_, srtF_sorted (xs := b :: l) fun i j h1 h2 h3 => ?_⟩
    · have := h 0 1 (Nat.le_refl _) (by omega) (by simp)
      unfold keyI at this
      rw [aOrd_one] at this
      simp at this
      split at this
      · omega
      · split at this <;> omega
    · have := h (i + 1) (j + 1) (Nat.zero_le _) (by omega) (by simp at h3 ⊢; omega)
      unfold keyI at this ⊢
      simpa using this
theorem OI.swap {TI : TypeId} {w : World} {lo k g : Nat} {xs : List Int} (h : OI TI w lo (some ⟨g, 0, none⟩) k xs) (i j : Nat) (x y : Int) : OI TI ((w.setCell ⟨g, i, none⟩ (.int .i64 y)).setCell ⟨g, j, none⟩ (.int .i64 x)) lo (some ⟨g, 0, none⟩) k ((xs.set i y).set j x) := by
  have h1 := h.store i y
  have := h1.store j x
  exact this
theorem OI.formAt {TI : TypeId} {w : World} {lo k : Nat} {A : Option Addr} {xs : List Int} (h : OI TI w lo A k xs) {j : Nat} {x : Int} (hx : xs[j]? = some x) : ∃ g, A = some ⟨g, 0, none⟩ ∧ g < w.heap.size ∧ w.cell? ⟨g, j, none⟩ = some (.int .i64 x) ∧ w.frozen? ⟨g, j, none⟩ = false := by
  obtain ⟨hj, he⟩ := List.getElem?_eq_some_iff.1 hx
  obtain ⟨g, rfl, hg, _, hf⟩ := h.form hj
  refine ⟨g, rfl, hg, ?_, hf⟩
  rw [World.ownsRow.cellAt h j (by omega)]
  simp [hx]

/-- What comes of numbers that are turned about. -/
def MvI (TI : TypeId) (w : World) (lo : Nat) (A : Option Addr) (k : Nat) (xs : List Int) (R : List Int → Prop) (e : Ending) (w' : World) : Prop :=
  e = .returned (.tuple #[]) ∧ ∃ ys : List Int, OI TI w' lo A k ys ∧ ys.Perm xs ∧ R ys ∧ Upd (atB A) w w'

set_option maxHeartbeats 1000000 in
theorem insertionI (A : Option Addr) (k lo : Nat) (xs : List Int) (w : World) (h : OI 3 w lo A k xs) (hn : xs.length < 1099511627776) :
    Calls Try.prog 122 #[.slice A xs.length k, .int .i64 0, .int .i64 xs.length] w (MvI 3 w lo A k xs (fun ys => SrtF (keyI ys) 0 xs.length)) := by
  go_enter Try.func122, Try.ntmps122
  go_wp2
  go_loopw [6, 7] (fun si sj wr => ∃ (i : Nat) (ys : List Int), 1 ≤ i ∧ (i ≤ xs.length ∨ i ≤ 1) ∧ si = .int .i64 i ∧ OI 3 wr lo A k ys ∧ ys.Perm xs ∧ SrtF (keyI ys) 0 i ∧ Upd (atB A) w wr) (fun si _ _ => xs.length - (intOf si).toNat)
  case atStart => exact ⟨1, xs, by omega, by omega, by go_num, h, List.Perm.refl _, fun i j h1 h2 h3 => by omega, Upd.refl _ _⟩
  case round =>
    obtain ⟨i, ys, hi1, hi2, rfl, ho, hp, hr, hup⟩ := hrel
    by_cases hlt : i < xs.length
    · have HI := hid (ins_start hr)
      have HP := hid hp
      have HU := hid hup
      clear hr hp hup h
      obtain ⟨wo, rfl⟩ : ∃ wo : World, wo = wr := ⟨_, rfl⟩
      go_wp2
      go_loopw [7] (fun sj wr => ∃ (j : Nat) (zs : List Int), j ≤ i ∧ sj = .int .i64 j ∧ OI 3 wr lo A k zs ∧ zs.Perm xs ∧ InsF (keyI zs) 0 i j ∧ Upd (atB A) w wr) (fun sj _ => (intOf sj).toNat)
      case atStart => exact ⟨i, ys, by omega, rfl, ho, HP.out, HI.out, HU.out⟩
      case round =>
        obtain ⟨j, zs, hj2, rfl, ho2, hp2, hr2, hup2⟩ := hrel
        by_cases hja : 0 < j
        · obtain ⟨q, rfl⟩ : ∃ q, j = q + 1 := ⟨j - 1, by omega⟩
          have hl2 := hp2.length_eq
          have hx : zs[q]? = some zs[q] := List.getElem?_eq_getElem (by omega)
          have hy : zs[q + 1]? = some zs[q + 1] := List.getElem?_eq_getElem (by omega)
          generalize zs[q] = x at hx
          generalize zs[q + 1] = y at hy
          obtain ⟨g, rfl, hg, cx, fx⟩ := ho2.formAt hx
          obtain ⟨g', e', _, cy, fy⟩ := ho2.formAt hy
          injection e' with e'
          injection e' with e' _ _
          subst e'
          have KX := hid (keyI_at hx)
          have KY := hid (keyI_at hy)
          have HX := hid hx
          have HY := hid hy
          have HO := hid ho2
          have HR := hid hr2
          have HP2 := hid hp2
          have HU2 := hid hup2
          have hql : q + 1 < xs.length := by omega
          have hgd : decide ((0 : Int) < (q : Int) + 1) = true := decide_eq_true (by omega)
          clear hx hy ho2 hr2 hp2 hup2 hl2 ho
          by_cases hc : y < x
          · have HK : Hid (aOrd (keyI zs (q + 1)) (keyI zs q) < 0) := hid (by rw [KX.out, KY.out, aOrd_one, if_pos hc]; omega)
            have hcd : decide (y < x) = true := decide_eq_true hc
            go_wp2
            refine wp_region_over (by kernel_rfl) (by kernel_rfl) ?_
            repeat (go_big_quiet_step ((go_at_call 103; exact calls_over_same (cmpLess _ _ _))))
            refine wpQuiet_nil ?_
            rintro _ ⟨⟨wq, hwq⟩, rfl⟩
            have cx' := keep hwq cx
            have cy' := keep hwq cy
            have fx' := keepf hwq cx fx
            have fy' := keepf hwq cy fy
            have hg' := lt_ext hwq hg
            have HS := hid ((HO.out.ext hwq).swap (q + 1) q y x)
            have HU3 := hid (HU2.out.next (.of_ext hwq))
            clear cx cy fx fy hg hwq
            go_wp2
            go_region
            go_wp2
            go_roundw
            case rel => exact ⟨q, _, by omega, by go_num, HS.out.ext (Ext.refl _).drew, (swpI_perm HY.out HX.out).trans HP2.out, ins_step HR.out (by omega) hj2 HK.out (swpI_key HY.out HX.out), ((HU3.out.set (p := ⟨g, q + 1, none⟩) (.inl ⟨0, none, rfl⟩) _).set (p := ⟨g, q, none⟩) (.inl ⟨0, none, rfl⟩) _).drew⟩
            case measure => simp [intOf]
          · have HK : Hid (SrtF (keyI zs) 0 (i + 1)) := hid (ins_done HR.out hj2 (.inr (by rw [Nat.add_sub_cancel, KX.out, KY.out, aOrd_one, if_neg hc]; split <;> omega)))
            have hcd : decide (y < x) = false := decide_eq_false hc
            go_wp2
            refine wp_region_over (by kernel_rfl) (by kernel_rfl) ?_
            repeat (go_big_quiet_step ((go_at_call 103; exact calls_over_same (cmpLess _ _ _))))
            refine wpQuiet_nil ?_
            rintro _ ⟨⟨wq, hwq⟩, rfl⟩
            have HO3 := hid (HO.out.ext hwq)
            have HU3 := hid (HU2.out.next (.of_ext hwq))
            clear cx cy fx fy hg hwq
            go_wp2
            go_roundw
            case rel => exact ⟨i + 1, zs, by omega, by omega, by go_num, HO3.out, HP2.out, HK.out, HU3.out⟩
            case measure => simp [intOf]; omega
        · have HK : Hid (SrtF (keyI zs) 0 (i + 1)) := hid (ins_done hr2 hj2 (.inl (by omega)))
          have hgd : decide ((0 : Int) < (j : Int)) = false := decide_eq_false (by omega)
          have HP2 := hid hp2
          have HU2 := hid hup2
          clear hr2 hp2 hup2 ho
          go_wp2
          refine wp_region_over (by kernel_rfl) (by kernel_rfl) ?_
          repeat (go_big_quiet_step (fail))
          refine wpQuiet_nil ?_
          rintro _ ⟨⟨wq, hwq⟩, rfl⟩
          have HO3 := hid (ho2.ext hwq)
          have HU3 := hid (HU2.out.next (.of_ext hwq))
          clear ho2 hwq
          go_wp2
          go_roundw
          case rel => exact ⟨i + 1, zs, by omega, by omega, by go_num, HO3.out, HP2.out, HK.out, HU3.out⟩
          case measure => simp [intOf]; omega
    · have HR := hid (hr.sub (Nat.le_refl 0) (show xs.length ≤ i by omega))
      have HP := hid hp
      clear hr hp h
      go_wp2
      go_end0
      exact ⟨rfl, ys, ho, HP.out, HR.out, hup⟩

theorem pdq (A : Option Addr) (k lo : Nat) (xs : List Int) (l : Int) (w : World) (h : OI 3 w lo A k xs) (hn : xs.length ≤ 12) :
    Calls Try.prog 98 #[.slice A xs.length k, .int .i64 0, .int .i64 xs.length, .int .i64 l] w (MvI 3 w lo A k xs (fun ys => ys = srt xs)) := by
  go_enter Try.func98, Try.ntmps98
  go_wp2
  refine wp_loop_rounds 1 ?_
  rw [rounds_succ]
  go_wp2_with fail
  refine (insertionI _ _ lo xs _ h (by omega)).mono ?_
  rintro e w1 ⟨rfl, ys, ho, hp, hr, hu⟩
  have HS : Hid (ys = srt xs) := hid (srt_of (srtF_sorted (by rw [hp.length_eq]; exact hr)) hp)
  have HP := hid hp
  have HO := hid ho
  have HU := hid hu
  clear hp hr ho hu
  go_wp2
  go_end0
  exact ⟨rfl, ys, HO.out, HP.out, HS.out, HU.out⟩

set_option maxRecDepth 100000 in
theorem sortI (A : Option Addr) (k lo : Nat) (xs : List Int) (w : World) (h : OI 3 w lo A k xs) (hn : xs.length ≤ 12) :
    Calls Try.prog 58 #[.slice A xs.length k] w fun e w' => e = .returned (.tuple #[]) ∧ OI 3 w' lo A k (srt xs) ∧ Upd (atB A) w w' := by
  go_enter Try.func58, Try.ntmps58
  go_wp2_with fail
  refine (bits_Len xs.length _ (by omega) (by omega)).mono ?_
  rintro e w1 ⟨rfl, rfl⟩
  generalize (Lib.bitLen _ : Int) = v
  go_wp2_with fail
  refine (pdq _ _ lo xs v _ h hn).mono ?_
  rintro e w1 ⟨rfl, ys, ho, hp, hr, hu⟩
  have HO : Hid (OI 3 w1 lo A k (srt xs)) := hid (by rw [← hr]; exact ho)
  have HU := hid hu
  clear hp hr ho hu
  go_wp2
  go_end0
  exact ⟨rfl, HO.out, HU.out⟩
end Go.Proofs.Ytcgelcaepkakaaa
