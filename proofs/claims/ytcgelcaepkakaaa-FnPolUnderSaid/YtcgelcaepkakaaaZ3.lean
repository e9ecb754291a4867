/- Contracts of the program's own PolAdd, PolMul, PolScale. Conditions: lengths that a machine can hold. -/
import Derived.Test.YtcgelcaepkakaaaZ2
import Derived.Test.YtcgelcaepkakaaaI2
import Derived.Deep.AppendLies
namespace Go.Proofs.Ytcgelcaepkakaaa
open Go Go.RowKit
set_option linter.unusedVariables false
set_option linter.unusedSimpArgs false

section
variable {P : Program} {TM TI TS : TypeId} {w : World} {ops : Array Oper} {rest : List Oper} {o : Oper} {a : Act} {Q : Exit → Act → World → Prop}
/-- 'append(list, m)' of one part, and where the new row lies. -/
theorem app_mono_lies (hT : TM ≠ TI) (ht : P.underlying TS = some (.slice TM)) (hinf : (P.info? TM).map (fun i => (i.zero, i.size, i.bytes)) = some (some (.agg #[.int .i64 0, .slice none 0 0]), 2, 32))
    (hgd : o.guard = none) (s x : Operand) (ho : o.op = .call { callee := .builtin .append, args := #[s, x], argTypes := #[TS, TS] })
    (lo : Nat) (A : Option Addr) (k : Nat) (ms : List Mn) (hown : LM TM TI w lo A k ms) (n : Nat) (hln : ms.length = n) (hs : a.eval s = .slice A n k) (m : Mn) (ad : Addr) (kx : Nat) (hx : a.eval x = .slice (some ad) 1 kx)
    (hc0 : w.cell? (ad.add 0) = some (.int .i64 m.c)) (hc1 : w.cell? (ad.add 1) = some (.slice m.A m.xs.length m.k)) (hm : RJ TI w m) (hn : n < 1099511627776) (hlo : lo ≤ w.heap.size)
    (h : ∀ A' k' w', LM TM TI w' lo A' k' (ms ++ [m]) → Upd (atB A) w w' → (∀ b, atB A' b → atB A b ∨ b = w.heap.size) → wpList P ops Q rest (a.put o.dst (.slice A' (n + 1) k')) w') : wpList P ops Q (o :: rest) a w := by
  subst hln
  obtain ⟨i, hi, hz, hz1, hz2⟩ := info_parts hinf
  refine wpList_append_lies w hgd s x TS ho lo TM i _ 2 32 ht hi hz hz1 hz2 rfl (by decide) _ ms.length _ hs hown.1 ad 1 kx m.cells hx rfl ?_ ?_ (by omega) (by unfold maxLen; omega) (by omega) hlo w.heap.size rfl ?_
  · intro j u hj
    match j, hj with
    | 0, hj => injection hj with hj; subst hj; exact hc0
    | 1, hj => injection hj with hj; subst hj; exact hc1
  · intro u hu
    rcases List.mem_cons.1 hu with rfl | hu
    · rfl
    · rcases List.mem_cons.1 hu with rfl | hu
      · rfl
      · cases hu
  · intro g cap w' ho' hg hat hlt
    have hk := grown_other hT hown.1 hg
    refine h (some ⟨g, 0, none⟩) cap w' ⟨?_, fun x hx => ?_⟩ (grown_upd hg) ?_
    · rw [flat_snoc, List.length_append]
      exact ho'
    · rcases List.mem_append.1 hx with hx | hx
      · exact ⟨(hown.2 x hx).1.keepB hk, (hown.2 x hx).2⟩
      · rw [List.mem_singleton.1 hx]
        exact ⟨hm.1.keepB hk, hm.2⟩
    · rintro b ⟨o', s', e⟩
      injection e with e
      injection e with e _ _
      subst e
      rcases hat with hat | hat
      · exact .inl (own_block hat.symm)
      · exact .inr hat
end

/-- A sum of its own memory, and whether it fits; what was there stands. -/
def RetQ (TM TI : TypeId) (w : World) (r : List Mono × Bool) (e : Ending) (w' : World) : Prop :=
  ∃ A k ms, e = .returned (.tuple #[.agg #[.slice A ms.length k], .bool r.2]) ∧ ms.map Mn.dat = r.1 ∧ OM TM TI w' w.heap.size A k ms ∧ Ext w w'
theorem implSum_ (A : Option Addr) (k lo n : Nat) (ms : List Mn) (w : World) (h : LM 73 3 w lo A k ms) (hl : ms.length = n) (hlo : lo ≤ w.heap.size) (hn : ms.length < 1048576) (hx : ∀ m ∈ ms, m.xs.length < 1048576) (hc : ∀ m ∈ ms, 0 ≤ m.c ∧ m.c ≤ 65535) (ha : ∀ m ∈ ms, atomsOk m.xs) :
    Calls Try.prog 60 #[.slice A n k] w (RetP 73 3 w (fitP (norm (ms.map Mn.dat))) (atB A)) := by
  subst hl
  exact implSum A k lo ms w h hlo hn hx hc ha
theorem sortI_ (A : Option Addr) (k lo n : Nat) (xs : List Int) (w : World) (h : OI 3 w lo A k xs) (hl : xs.length = n) (hn : n ≤ 12) :
    Calls Try.prog 58 #[.slice A n k] w fun e w' => e = .returned (.tuple #[]) ∧ OI 3 w' lo A k (srt xs) ∧ Upd (atB A) w w' := by
  subst hl
  exact sortI A k lo xs w h hn
theorem ok_small {ms : List Mn} (h : polOk (ms.map Mn.dat) = true) : ms.length ≤ 12 ∧ (∀ m ∈ ms, m.xs.length ≤ 4) ∧ (∀ m ∈ ms, 1 ≤ m.c ∧ m.c ≤ 65535) ∧ (∀ m ∈ ms, atomsOk m.xs) := by
  have hd : ∀ m ∈ ms, m.dat ∈ ms.map Mn.dat := fun m hm => List.mem_map_of_mem hm
  exact ⟨by simpa using polOk_length h, fun m hm => polOk_deg h (hd m hm), fun m hm => (polOk_canon h).coef _ (hd m hm), fun m hm => polOk_atoms h (hd m hm)⟩

set_option maxRecDepth 100000 in
set_option maxHeartbeats 1000000 in
theorem implPolAdd (A A' : Option Addr) (k k' : Nat) (ms ms' : List Mn) (w : World) (h : RN 73 3 w A k ms) (h' : RN 73 3 w A' k' ms') (hs : SzM ms) (hs' : SzM ms') :
    Calls Try.prog 28 #[.agg #[.slice A ms.length k], .agg #[.slice A' ms'.length k']] w (RetQ 73 3 w (polAdd (ms.map Mn.dat) (ms'.map Mn.dat))) := by
  cases ha : polOk (ms.map Mn.dat)
  · have HP := hid (polAdd_no (a := ms.map Mn.dat) (b := ms'.map Mn.dat) (by rw [ha]; rfl))
    have HA := hid ha
    clear ha
    go_enter Try.func28, Try.ntmps28
    go_wp2_with fail
    refine (implPolOk _ _ _ _ (h.rm.ext (by repeat (first | with_reducible assumption | with_reducible exact Ext.refl _ | with_reducible apply Ext.drewN | with_reducible apply Ext.drew | with_reducible apply Ext.alloc | with_reducible refine Ext.set ?_ (by first | (simp; done) | (simp; omega)) _ | with_reducible refine Ext.next ?_ (by with_reducible assumption)))) hs).mono ?_
    rintro e w1 ⟨rfl, hw1⟩
    rw [HA.out]
    have c2 : w1.cell? ⟨w.heap.size + 1 + 1, 0, none⟩ = some (.slice none 0 0) := keep hw1 (by go_simp)
    have f2 : w1.frozen? ⟨w.heap.size + 1 + 1, 0, none⟩ = false := (hw1.frozen (by simp)).trans (by go_simp)
    have hx : Ext w w1 := (by repeat (first | with_reducible assumption | with_reducible exact Ext.refl _ | with_reducible apply Ext.drewN | with_reducible apply Ext.drew | with_reducible apply Ext.alloc | with_reducible refine Ext.set ?_ (by first | (simp; done) | (simp; omega)) _ | with_reducible refine Ext.next ?_ (by with_reducible assumption)))
    go_wp2
    refine bodyPost_ret (v := .tuple #[.agg #[.slice none 0 0], .bool false]) (by simp [results, Try.results28, go_sem, c2, f2]) rfl ⟨none, 0, [], by rw [HP.out]; rfl, by rw [HP.out]; rfl, OM.nil _ _, hx.set (by simp; omega) _⟩
  cases hb : polOk (ms'.map Mn.dat)
  · have HP := hid (polAdd_no (a := ms.map Mn.dat) (b := ms'.map Mn.dat) (by rw [ha, hb]; rfl))
    have HA := hid ha
    have HB := hid hb
    clear ha hb
    go_enter Try.func28, Try.ntmps28
    go_wp2_with fail
    refine (implPolOk _ _ _ _ (h.rm.ext (by repeat (first | with_reducible assumption | with_reducible exact Ext.refl _ | with_reducible apply Ext.drewN | with_reducible apply Ext.drew | with_reducible apply Ext.alloc | with_reducible refine Ext.set ?_ (by first | (simp; done) | (simp; omega)) _ | with_reducible refine Ext.next ?_ (by with_reducible assumption)))) hs).mono ?_
    rintro e w1 ⟨rfl, hw1⟩
    rw [HA.out]
    have c1 : w1.cell? ⟨w.heap.size + 1, 0, none⟩ = some (.slice A' ms'.length k') := keep hw1 (by go_simp)
    have c2 : w1.cell? ⟨w.heap.size + 1 + 1, 0, none⟩ = some (.slice none 0 0) := keep hw1 (by go_simp)
    have f2 : w1.frozen? ⟨w.heap.size + 1 + 1, 0, none⟩ = false := (hw1.frozen (by simp)).trans (by go_simp)
    have hx : Ext w w1 := (by repeat (first | with_reducible assumption | with_reducible exact Ext.refl _ | with_reducible apply Ext.drewN | with_reducible apply Ext.drew | with_reducible apply Ext.alloc | with_reducible refine Ext.set ?_ (by first | (simp; done) | (simp; omega)) _ | with_reducible refine Ext.next ?_ (by with_reducible assumption)))
    have hl := World.block_lt_of_cell? _ _ c2
    simp only at hl
    go_wp2_with fail
    refine (implPolOk _ _ _ _ (h'.rm.ext (by repeat (first | with_reducible assumption | with_reducible exact Ext.refl _ | with_reducible apply Ext.drewN | with_reducible apply Ext.drew | with_reducible apply Ext.alloc | with_reducible refine Ext.set ?_ (by first | (simp; done) | (simp; omega)) _ | with_reducible refine Ext.next ?_ (by with_reducible assumption)))) hs').mono ?_
    rintro e w2 ⟨rfl, hw2⟩
    rw [HB.out]
    have d2 := keep hw2 c2
    have g2 := keepf hw2 c2 f2
    have hx2 := hx.next hw2
    clear c1 c2 f2
    go_wp2
    refine bodyPost_ret (v := .tuple #[.agg #[.slice none 0 0], .bool false]) (by simp [results, Try.results28, go_sem, d2, g2]) rfl ⟨none, 0, [], by rw [HP.out]; rfl, by rw [HP.out]; rfl, OM.nil _ _, hx2.set (by simp; omega) _⟩
  · obtain ⟨n1, x1, q1, a1⟩ := ok_small ha
    obtain ⟨n2, x2, q2, a2⟩ := ok_small hb
    have HP : Hid (polAdd (ms.map Mn.dat) (ms'.map Mn.dat) = fitP (norm ((ms ++ ms').map Mn.dat))) := hid (by rw [polAdd_yes ha hb, List.map_append])
    have HA := hid ha
    have HB := hid hb
    have HX : Hid (∀ m ∈ ms ++ ms', m.xs.length < 1048576) := hid fun m hm => by
      rcases List.mem_append.1 hm with hm | hm
      · have := x1 m hm; omega
      · have := x2 m hm; omega
    have HC : Hid (∀ m ∈ ms ++ ms', 0 ≤ m.c ∧ m.c ≤ 65535) := hid fun m hm => by
      rcases List.mem_append.1 hm with hm | hm
      · have := q1 m hm; omega
      · have := q2 m hm; omega
    have HT : Hid (∀ m ∈ ms ++ ms', atomsOk m.xs) := hid fun m hm => by
      rcases List.mem_append.1 hm with hm | hm
      · exact a1 m hm
      · exact a2 m hm
    clear ha hb x1 x2 q1 q2 a1 a2
    go_enter Try.func28, Try.ntmps28
    go_wp2_with fail
    refine (implPolOk _ _ _ _ (h.rm.ext (by repeat (first | with_reducible assumption | with_reducible exact Ext.refl _ | with_reducible apply Ext.drewN | with_reducible apply Ext.drew | with_reducible apply Ext.alloc | with_reducible refine Ext.set ?_ (by first | (simp; done) | (simp; omega)) _ | with_reducible refine Ext.next ?_ (by with_reducible assumption)))) hs).mono ?_
    rintro e w1 ⟨rfl, hw1⟩
    rw [HA.out]
    have c0 : w1.cell? ⟨w.heap.size, 0, none⟩ = some (.slice A ms.length k) := keep hw1 (by go_simp)
    have c1 : w1.cell? ⟨w.heap.size + 1, 0, none⟩ = some (.slice A' ms'.length k') := keep hw1 (by go_simp)
    have c2 : w1.cell? ⟨w.heap.size + 1 + 1, 0, none⟩ = some (.slice none 0 0) := keep hw1 (by go_simp)
    have f2 : w1.frozen? ⟨w.heap.size + 1 + 1, 0, none⟩ = false := (hw1.frozen (by simp)).trans (by go_simp)
    have hx : Ext w w1 := (by repeat (first | with_reducible assumption | with_reducible exact Ext.refl _ | with_reducible apply Ext.drewN | with_reducible apply Ext.drew | with_reducible apply Ext.alloc | with_reducible refine Ext.set ?_ (by first | (simp; done) | (simp; omega)) _ | with_reducible refine Ext.next ?_ (by with_reducible assumption)))
    have hl := World.block_lt_of_cell? _ _ c2
    simp only at hl
    go_wp2_with fail
    refine (implPolOk _ _ _ _ (h'.rm.ext (by repeat (first | with_reducible assumption | with_reducible exact Ext.refl _ | with_reducible apply Ext.drewN | with_reducible apply Ext.drew | with_reducible apply Ext.alloc | with_reducible refine Ext.set ?_ (by first | (simp; done) | (simp; omega)) _ | with_reducible refine Ext.next ?_ (by with_reducible assumption)))) hs').mono ?_
    rintro e w2 ⟨rfl, hw2⟩
    rw [HB.out]
    have d0 := keep hw2 c0
    have d1 := keep hw2 c1
    have d2 := keep hw2 c2
    have g2 := keepf hw2 c2 f2
    have hl2 := lt_ext hw2 hl
    have hx2 := hx.next hw2
    clear c0 c1 c2 f2
    go_wp2_with fail
    refine (concatM _ _ _ _ _ _ ms ms' _ (h.ext (by repeat (first | with_reducible assumption | with_reducible exact Ext.refl _ | with_reducible apply Ext.drewN | with_reducible apply Ext.drew | with_reducible apply Ext.alloc | with_reducible refine Ext.set ?_ (by first | (simp; done) | (simp; omega)) _ | with_reducible refine Ext.next ?_ (by with_reducible assumption)))) (h'.ext (by repeat (first | with_reducible assumption | with_reducible exact Ext.refl _ | with_reducible apply Ext.drewN | with_reducible apply Ext.drew | with_reducible apply Ext.alloc | with_reducible refine Ext.set ?_ (by first | (simp; done) | (simp; omega)) _ | with_reducible refine Ext.next ?_ (by with_reducible assumption)))) (by go_simp) (by go_simp) (by omega) (by omega)).mono ?_
    rintro e w3 ⟨A3, k3, rfl, ho3, hw3⟩
    have hw3s := hw3.size
    have e2 : w3.cell? ⟨w.heap.size + 1 + 1, 0, none⟩ = some (.slice none 0 0) := keep hw3 (by go_simp)
    have p2 : w3.frozen? ⟨w.heap.size + 1 + 1, 0, none⟩ = false := (hw3.frozen (by simp; omega)).trans (by go_simp)
    have hl3 := World.block_lt_of_cell? _ _ e2
    simp only at hl3
    have hx3 : Ext w w3 := hx2.next (by repeat (first | with_reducible assumption | with_reducible exact Ext.refl _ | with_reducible apply Ext.drewN | with_reducible apply Ext.drew | with_reducible apply Ext.alloc | with_reducible refine Ext.set ?_ (by first | (simp; done) | (simp; omega)) _ | with_reducible refine Ext.next ?_ (by with_reducible assumption)))
    have hb3 : ∀ b, atB A3 b → w.heap.size + 1 + 1 < b := fun b hb => by have := (own_atB ho3.1 hb).1; simp at this; omega
    clear d0 d1 d2 g2 h h'
    go_wp2_with fail
    refine (implSum_ _ _ _ _ (ms ++ ms') _ ho3 (by simp) hw3s (by rw [List.length_append]; omega) HX.out HC.out HT.out).mono ?_
    rintro e w5 ⟨A5, k5, ms5, rfl, hd5, ho5, hu5⟩
    have e5 : w5.cell? ⟨w.heap.size + 1 + 1, 0, none⟩ = some (.slice none 0 0) := (hu5.cell (p := ⟨w.heap.size + 1 + 1, 0, none⟩) (by simp only; omega) (fun hb => by have := hb3 _ hb; simp only at this; omega)).trans e2
    have p5 : w5.frozen? ⟨w.heap.size + 1 + 1, 0, none⟩ = false := (hu5.frozen (p := ⟨w.heap.size + 1 + 1, 0, none⟩) (by simp only; omega) (fun hb => by have := hb3 _ hb; simp only at this; omega)).trans p2
    have HX5 := hid (((Upd.of_ext hx3).next hu5).ext fun b hb => by have := hb3 b hb; omega)
    have HD5 := hid hd5
    have HO5 := hid ((ho5.set (p := ⟨w.heap.size + 1 + 1, 0, none⟩) (by simp only; omega) (.slice A5 ms5.length k5)).base (lo' := w.heap.size) (by omega))
    clear hu5 hd5 ho5 e2 p2
    go_wp2
    refine bodyPost_ret (v := .tuple #[.agg #[.slice A5 ms5.length k5], .bool (fitP (norm ((ms ++ ms').map Mn.dat))).2]) (by simp [results, Try.results28, go_sem, e5, p5]) rfl ⟨A5, k5, ms5, by rw [HP.out], by rw [HP.out]; exact HD5.out, HO5.out, HX5.out.set (by simp; omega) _⟩

/-! ### products -/
def row (x : Mono) (b : List Mono) : List Mono := b.map fun y => (wrap (x.1 * y.1), srt (x.2 ++ y.2))
theorem row_take {x : Mono} {b : List Mono} {j : Nat} {y : Mono} (h : b[j]? = some y) : row x (b.take (j + 1)) = row x (b.take j) ++ [(wrap (x.1 * y.1), srt (x.2 ++ y.2))] := by
  unfold row
  rw [List.take_add_one, h]
  simp
theorem prods_take {a b : List Mono} {i : Nat} {x : Mono} (h : a[i]? = some x) : prods (a.take (i + 1)) b = prods (a.take i) b ++ row x b := by
  unfold prods row
  rw [List.take_add_one, h]
  simp
theorem row_mem {x : Mono} {b : List Mono} {y : Mono} (h : y ∈ row x b) : ∃ z ∈ b, y = (wrap (x.1 * z.1), srt (x.2 ++ z.2)) := by
  obtain ⟨z, hz, rfl⟩ := List.mem_map.1 h
  exact ⟨z, hz, rfl⟩
theorem dat_len {ms : List Mn} {d : List Mono} (h : ms.map Mn.dat = d) : ms.length = d.length := by rw [← h, List.length_map]

set_option maxRecDepth 100000 in
set_option maxHeartbeats 2000000 in
theorem implPolMul (A A' : Option Addr) (k k' : Nat) (ms ms' : List Mn) (w : World) (h : RN 73 3 w A k ms) (h' : RN 73 3 w A' k' ms') (hs : SzM ms) (hs' : SzM ms') :
    Calls Try.prog 13 #[.agg #[.slice A ms.length k], .agg #[.slice A' ms'.length k']] w (RetQ 73 3 w (polMul (ms.map Mn.dat) (ms'.map Mn.dat))) := by
  cases ha : polOk (ms.map Mn.dat)
  · have HP := hid (polMul_no (a := ms.map Mn.dat) (b := ms'.map Mn.dat) (by rw [ha]; rfl))
    have HA := hid ha
    clear ha
    go_enter Try.func13, Try.ntmps13
    go_wp2_with fail
    refine (implPolOk _ _ _ _ (h.rm.ext (by repeat (first | with_reducible assumption | with_reducible exact Ext.refl _ | with_reducible apply Ext.drewN | with_reducible apply Ext.drew | with_reducible apply Ext.alloc | with_reducible refine Ext.set ?_ (by first | (simp; done) | (simp; omega)) _ | with_reducible refine Ext.next ?_ (by with_reducible assumption)))) hs).mono ?_
    rintro e w1 ⟨rfl, hw1⟩
    rw [HA.out]
    have c2 : w1.cell? ⟨w.heap.size + 1 + 1, 0, none⟩ = some (.slice none 0 0) := keep hw1 (by go_simp)
    have f2 : w1.frozen? ⟨w.heap.size + 1 + 1, 0, none⟩ = false := (hw1.frozen (by simp)).trans (by go_simp)
    have hx : Ext w w1 := (by repeat (first | with_reducible assumption | with_reducible exact Ext.refl _ | with_reducible apply Ext.drewN | with_reducible apply Ext.drew | with_reducible apply Ext.alloc | with_reducible refine Ext.set ?_ (by first | (simp; done) | (simp; omega)) _ | with_reducible refine Ext.next ?_ (by with_reducible assumption)))
    go_wp2
    refine bodyPost_ret (v := .tuple #[.agg #[.slice none 0 0], .bool false]) (by simp [results, Try.results13, go_sem, c2, f2]) rfl ⟨none, 0, [], by rw [HP.out]; rfl, by rw [HP.out]; rfl, OM.nil _ _, hx.set (by simp; omega) _⟩
  cases hb : polOk (ms'.map Mn.dat)
  · have HP := hid (polMul_no (a := ms.map Mn.dat) (b := ms'.map Mn.dat) (by rw [ha, hb]; rfl))
    have HA := hid ha
    have HB := hid hb
    clear ha hb
    go_enter Try.func13, Try.ntmps13
    go_wp2_with fail
    refine (implPolOk _ _ _ _ (h.rm.ext (by repeat (first | with_reducible assumption | with_reducible exact Ext.refl _ | with_reducible apply Ext.drewN | with_reducible apply Ext.drew | with_reducible apply Ext.alloc | with_reducible refine Ext.set ?_ (by first | (simp; done) | (simp; omega)) _ | with_reducible refine Ext.next ?_ (by with_reducible assumption)))) hs).mono ?_
    rintro e w1 ⟨rfl, hw1⟩
    rw [HA.out]
    have c1 : w1.cell? ⟨w.heap.size + 1, 0, none⟩ = some (.slice A' ms'.length k') := keep hw1 (by go_simp)
    have c2 : w1.cell? ⟨w.heap.size + 1 + 1, 0, none⟩ = some (.slice none 0 0) := keep hw1 (by go_simp)
    have f2 : w1.frozen? ⟨w.heap.size + 1 + 1, 0, none⟩ = false := (hw1.frozen (by simp)).trans (by go_simp)
    have hx : Ext w w1 := (by repeat (first | with_reducible assumption | with_reducible exact Ext.refl _ | with_reducible apply Ext.drewN | with_reducible apply Ext.drew | with_reducible apply Ext.alloc | with_reducible refine Ext.set ?_ (by first | (simp; done) | (simp; omega)) _ | with_reducible refine Ext.next ?_ (by with_reducible assumption)))
    have hl := World.block_lt_of_cell? _ _ c2
    simp only at hl
    go_wp2_with fail
    refine (implPolOk _ _ _ _ (h'.rm.ext (by repeat (first | with_reducible assumption | with_reducible exact Ext.refl _ | with_reducible apply Ext.drewN | with_reducible apply Ext.drew | with_reducible apply Ext.alloc | with_reducible refine Ext.set ?_ (by first | (simp; done) | (simp; omega)) _ | with_reducible refine Ext.next ?_ (by with_reducible assumption)))) hs').mono ?_
    rintro e w2 ⟨rfl, hw2⟩
    rw [HB.out]
    have d2 := keep hw2 c2
    have g2 := keepf hw2 c2 f2
    have hx2 := hx.next hw2
    clear c1 c2 f2
    go_wp2
    refine bodyPost_ret (v := .tuple #[.agg #[.slice none 0 0], .bool false]) (by simp [results, Try.results13, go_sem, d2, g2]) rfl ⟨none, 0, [], by rw [HP.out]; rfl, by rw [HP.out]; rfl, OM.nil _ _, hx2.set (by simp; omega) _⟩
  · obtain ⟨n1, x1, q1, a1⟩ := ok_small ha
    obtain ⟨n2, x2, q2, a2⟩ := ok_small hb
    have HP : Hid (polMul (ms.map Mn.dat) (ms'.map Mn.dat) = fitP (norm (prods (ms.map Mn.dat) (ms'.map Mn.dat)))) := hid (polMul_yes ha hb)
    have HA := hid ha
    have HB := hid hb
    have HX1 := hid x1
    have HX2 := hid x2
    have HQ1 := hid q1
    have HQ2 := hid q2
    clear ha hb x1 x2 q1 q2 a1 a2
    go_enter Try.func13, Try.ntmps13
    go_wp2_with fail
    refine (implPolOk _ _ _ _ (h.rm.ext (by repeat (first | with_reducible assumption | with_reducible exact Ext.refl _ | with_reducible apply Ext.drewN | with_reducible apply Ext.drew | with_reducible apply Ext.alloc | with_reducible refine Ext.set ?_ (by first | (simp; done) | (simp; omega)) _ | with_reducible refine Ext.next ?_ (by with_reducible assumption)))) hs).mono ?_
    rintro e w1 ⟨rfl, hw1⟩
    rw [HA.out]
    have c0 : w1.cell? ⟨w.heap.size, 0, none⟩ = some (.slice A ms.length k) := keep hw1 (by go_simp)
    have c1 : w1.cell? ⟨w.heap.size + 1, 0, none⟩ = some (.slice A' ms'.length k') := keep hw1 (by go_simp)
    have c2 : w1.cell? ⟨w.heap.size + 1 + 1, 0, none⟩ = some (.slice none 0 0) := keep hw1 (by go_simp)
    have f2 : w1.frozen? ⟨w.heap.size + 1 + 1, 0, none⟩ = false := (hw1.frozen (by simp)).trans (by go_simp)
    have hx : Ext w w1 := (by repeat (first | with_reducible assumption | with_reducible exact Ext.refl _ | with_reducible apply Ext.drewN | with_reducible apply Ext.drew | with_reducible apply Ext.alloc | with_reducible refine Ext.set ?_ (by first | (simp; done) | (simp; omega)) _ | with_reducible refine Ext.next ?_ (by with_reducible assumption)))
    have hl := World.block_lt_of_cell? _ _ c2
    simp only at hl
    go_wp2_with fail
    refine (implPolOk _ _ _ _ (h'.rm.ext (by repeat (first | with_reducible assumption | with_reducible exact Ext.refl _ | with_reducible apply Ext.drewN | with_reducible apply Ext.drew | with_reducible apply Ext.alloc | with_reducible refine Ext.set ?_ (by first | (simp; done) | (simp; omega)) _ | with_reducible refine Ext.next ?_ (by with_reducible assumption)))) hs').mono ?_
    rintro e w2 ⟨rfl, hw2⟩
    rw [HB.out]
    have d0 := keep hw2 c0
    have d1 := keep hw2 c1
    have d2 := keep hw2 c2
    have g2 := keepf hw2 c2 f2
    have hl2 := lt_ext hw2 hl
    have hx2 := hx.next hw2
    have h2 := h.ext hx2
    have h2' := h'.ext hx2
    have HS1 := hid hs
    have HS2 := hid hs'
    clear c0 c1 c2 f2 hw1 hw2 hx hl h h' hs hs'
    go_wp2
    go_loopw [6, 8, 10, 11, 24, 29, 30, 31] (fun sl _ _ _ si _ _ _ wr => ∃ (i : Nat) (B : Option Addr) (kb : Nat) (ls : List Mn), i ≤ ms.length ∧ si = .int .i64 i ∧ sl = .slice B ls.length kb ∧ LM 73 3 wr w2.heap.size B kb ls ∧ ls.map Mn.dat = prods ((ms.map Mn.dat).take i) (ms'.map Mn.dat) ∧ Ext w2 wr) (fun _ _ _ _ si _ _ _ _ => ms.length - (intOf si).toNat)
    case atStart => exact ⟨0, none, 0, [], Nat.zero_le _, rfl, rfl, LM.nil _ _, rfl, Ext.refl _⟩
    case round =>
      obtain ⟨i, B, kb, ls, hi, rfl, rfl, hls, hd, hext⟩ := hrel
      have HD := hid hd
      have hll : ls.length ≤ 144 := by
        rw [dat_len hd, prods_length, List.length_map, List.length_take]
        have : min i (ms.map Mn.dat).length ≤ 12 := by rw [List.length_map]; omega
        exact Nat.mul_le_mul this n2
      clear hd
      have hsw := hext.size
      by_cases hlt : i < ms.length
      · have hm : ms[i]? = some ms[i] := List.getElem?_eq_getElem hlt
        generalize ms[i] = m at hm
        have HM := hid hm
        obtain ⟨wo, rfl⟩ : ∃ wo : World, wo = wr := ⟨_, rfl⟩
        obtain ⟨b, o, m0, rfl, hbl, hm0, c0, c1, hJ⟩ := (h2.ext hext).at_ hlt
        rw [hm] at hm0
        injection hm0 with hm0
        subst hm0
        have d0' := keep hext d0
        have d1' := keep hext d1
        have hl3 := lt_ext hext hl2
        have hl4 : w.heap.size + 1 < wo.heap.size := by omega
        have hl5 : w.heap.size < wo.heap.size := by omega
        have hxm := HX1.out m (List.mem_of_getElem? hm)
        have hcm := HQ1.out m (List.mem_of_getElem? hm)
        have HN : Hid (¬ atB B wo.heap.size) := hid fun hb => by have := (own_atB hls.1 hb).2; omega
        clear hm hJ
        go_wp2
        go_loopw [6, 10, 11, 31] (fun sl _ _ sj wr => ∃ (j : Nat) (B : Option Addr) (kb : Nat) (ls : List Mn), j ≤ ms'.length ∧ sj = .int .i64 j ∧ sl = .slice B ls.length kb ∧ LM 73 3 wr w2.heap.size B kb ls ∧ ls.map Mn.dat = prods ((ms.map Mn.dat).take i) (ms'.map Mn.dat) ++ row m.dat ((ms'.map Mn.dat).take j) ∧ Ext w2 wr ∧ wr.cell? ⟨wo.heap.size, 0, none⟩ = some (.int .i64 m.c) ∧ wr.cell? ⟨wo.heap.size, 1, none⟩ = some (.slice m.A m.xs.length m.k) ∧ ¬ atB B wo.heap.size) (fun _ _ _ sj _ => ms'.length - (intOf sj).toNat)
        case atStart => exact ⟨0, B, kb, ls, Nat.zero_le _, rfl, rfl, hls.ext (by repeat (first | with_reducible assumption | with_reducible exact Ext.refl _ | with_reducible apply Ext.drewN | with_reducible apply Ext.drew | with_reducible apply Ext.alloc | with_reducible refine Ext.set ?_ (by first | (simp; done) | (simp; omega)) _ | with_reducible refine Ext.next ?_ (by with_reducible assumption))), by rw [HD.out]; simp [row], hext.next (by repeat (first | with_reducible assumption | with_reducible exact Ext.refl _ | with_reducible apply Ext.drewN | with_reducible apply Ext.drew | with_reducible apply Ext.alloc | with_reducible refine Ext.set ?_ (by first | (simp; done) | (simp; omega)) _ | with_reducible refine Ext.next ?_ (by with_reducible assumption))), by go_simp, by go_simp, HN.out⟩
        case round =>
          obtain ⟨j, B2, kb2, ls2, hj, rfl, rfl, hls2, hd2, hxw, q0, q1, hnb⟩ := hrel
          have HD2 := hid hd2
          have hll2 : ls2.length ≤ 300 := by
            rw [dat_len hd2, List.length_append, prods_length, List.length_map, List.length_take]
            have h1 : min i (ms.map Mn.dat).length ≤ 12 := by rw [List.length_map]; omega
            have h2 : (row m.dat ((ms'.map Mn.dat).take j)).length ≤ 12 := by unfold row; rw [List.length_map, List.length_take, List.length_map]; omega
            have h3 := Nat.mul_le_mul h1 n2
            omega
          clear hd2
          have HNB := hid hnb
          clear hnb
          by_cases hjt : j < ms'.length
          · have hm' : ms'[j]? = some ms'[j] := List.getElem?_eq_getElem hjt
            generalize ms'[j] = m' at hm'
            have HM' := hid hm'
            obtain ⟨b', o', m0, rfl, hbl', hm0, c0', c1', hJ'⟩ := (h2'.ext hxw).at_ hjt
            rw [hm'] at hm0
            injection hm0 with hm0
            subst hm0
            have hxm' := HX2.out m' (List.mem_of_getElem? hm')
            have hcm' := HQ2.out m' (List.mem_of_getElem? hm')
            have hlq := World.block_lt_of_cell? _ _ q0
            simp only at hlq
            have hJ2 := (h2.ext hxw).2 m (List.mem_of_getElem? HM.out)
            have hsz2 := hxw.size
            clear hm' hls
            go_wp2_with fail
            refine (concatI _ _ _ _ _ _ m.xs m'.xs _ ((hJ2.ext (by repeat (first | with_reducible assumption | with_reducible exact Ext.refl _ | with_reducible apply Ext.drewN | with_reducible apply Ext.drew | with_reducible apply Ext.alloc | with_reducible refine Ext.set ?_ (by first | (simp; done) | (simp; omega)) _ | with_reducible refine Ext.next ?_ (by with_reducible assumption)))).rk) ((hJ'.ext (by repeat (first | with_reducible assumption | with_reducible exact Ext.refl _ | with_reducible apply Ext.drewN | with_reducible apply Ext.drew | with_reducible apply Ext.alloc | with_reducible refine Ext.set ?_ (by first | (simp; done) | (simp; omega)) _ | with_reducible refine Ext.next ?_ (by with_reducible assumption)))).rk) (by go_simp) (by go_simp) (by omega) (by omega)).mono ?_
            rintro e w3 ⟨A3, k3, rfl, ho3, hw3⟩
            have r0 : w3.cell? ⟨wo.heap.size, 0, none⟩ = some (.int .i64 m.c) := keep hw3 (by go_simp)
            have r2 : w3.cell? ⟨wo.heap.size, 1, none⟩ = some (.slice m.A m.xs.length m.k) := keep hw3 (by go_simp)
            have r1 : w3.cell? ⟨wr.heap.size, 0, none⟩ = some (.int .i64 m'.c) := keep hw3 (by go_simp)
            have hb3 : ∀ b, atB A3 b → wr.heap.size < b := fun b hb => by have := (own_atB ho3 hb).1; simp at this; omega
            have hl6 := World.block_lt_of_cell? _ _ r1
            simp only at hl6
            have hx3 : Ext wr w3 := (by repeat (first | with_reducible assumption | with_reducible exact Ext.refl _ | with_reducible apply Ext.drewN | with_reducible apply Ext.drew | with_reducible apply Ext.alloc | with_reducible refine Ext.set ?_ (by first | (simp; done) | (simp; omega)) _ | with_reducible refine Ext.next ?_ (by with_reducible assumption)))
            clear q0 q1
            go_wp2_with fail
            refine (sortI_ _ _ _ _ _ _ ho3 (by simp) (by omega)).mono ?_
            rintro e w4 ⟨rfl, ho4, hu4⟩
            have s0 : w4.cell? ⟨wo.heap.size, 0, none⟩ = some (.int .i64 m.c) := (hu4.cell (p := ⟨wo.heap.size, 0, none⟩) (by simp only; omega) (fun hb => by have := hb3 _ hb; simp only at this; omega)).trans r0
            have s2 : w4.cell? ⟨wo.heap.size, 1, none⟩ = some (.slice m.A m.xs.length m.k) := (hu4.cell (p := ⟨wo.heap.size, 1, none⟩) (by simp only; omega) (fun hb => by have := hb3 _ hb; simp only at this; omega)).trans r2
            have s1 : w4.cell? ⟨wr.heap.size, 0, none⟩ = some (.int .i64 m'.c) := (hu4.cell (p := ⟨wr.heap.size, 0, none⟩) (by simp only; omega) (fun hb => by have := hb3 _ hb; simp only at this; omega)).trans r1
            have hx4 : Ext wr w4 := ((Upd.of_ext hx3).next hu4).ext fun b hb => by have := hb3 b hb; omega
            have hl7 := World.block_lt_of_cell? _ _ s1
            simp only at hl7
            have hls4 := hls2.ext hx4
            have HLx : Hid ((srt (m.xs ++ m'.xs)).length = m.xs.length + m'.xs.length) := hid (by rw [srt_length, List.length_append])
            have hc2 : 1 ≤ m.c * m'.c ∧ m.c * m'.c ≤ 4294836225 := by
              refine ⟨?_, ?_⟩
              · have := Int.mul_le_mul hcm.1 hcm'.1 (by omega) (by omega)
                omega
              · have := Int.mul_le_mul hcm.2 hcm'.2 (by omega) (by omega)
                omega
            clear r0 r1 r2 hu4 hb3 hx3
            go_wp2_with fail
            refine (implWrdWrap _ _).mono ?_
            rintro e w5 ⟨rfl, rfl⟩
            have hJ5 : RJ 3 w4 ⟨wrap (m.c * m'.c), A3, k3, srt (m.xs ++ m'.xs)⟩ := RJ.of_own ho4
            go_wp2_with (at_builtin; (refine app_mono_lies (by decide) Try.underlying23 info_mono rfl _ _ rfl w2.heap.size B2 kb2 ls2 (hls4.ext (by repeat (first | with_reducible assumption | with_reducible exact Ext.refl _ | with_reducible apply Ext.drewN | with_reducible apply Ext.drew | with_reducible apply Ext.alloc | with_reducible refine Ext.set ?_ (by first | (simp; done) | (simp; omega)) _ | with_reducible refine Ext.next ?_ (by with_reducible assumption)))) ls2.length rfl rfl ⟨wrap (m.c * m'.c), A3, k3, srt (m.xs ++ m'.xs)⟩ ⟨w4.heap.size, 0, none⟩ 1 rfl (by rw [addr_add]; go_simp) (by rw [addr_add, HLx.out]; go_simp) (hJ5.ext (by repeat (first | with_reducible assumption | with_reducible exact Ext.refl _ | with_reducible apply Ext.drewN | with_reducible apply Ext.drew | with_reducible apply Ext.alloc | with_reducible refine Ext.set ?_ (by first | (simp; done) | (simp; omega)) _ | with_reducible refine Ext.next ?_ (by with_reducible assumption)))) (by omega) (by simp; omega) ?_); (intro B5 kb5 w5 ho5 hu5 hat))
            have HO5 := hid ho5
            have HX5 := hid (((Upd.of_ext (hxw.next (hx4.next (by repeat (first | with_reducible assumption | with_reducible exact Ext.refl _ | with_reducible apply Ext.drewN | with_reducible apply Ext.drew | with_reducible apply Ext.alloc | with_reducible refine Ext.set ?_ (by first | (simp; done) | (simp; omega)) _ | with_reducible refine Ext.next ?_ (by with_reducible assumption)))))).next hu5).ext fun b hb => (own_atB hls2.1 hb).1)
            have t0 : w5.cell? ⟨wo.heap.size, 0, none⟩ = some (.int .i64 m.c) := (hu5.cell (p := ⟨wo.heap.size, 0, none⟩) (by simp; omega) HNB.out).trans (keep (by repeat (first | with_reducible assumption | with_reducible exact Ext.refl _ | with_reducible apply Ext.drewN | with_reducible apply Ext.drew | with_reducible apply Ext.alloc | with_reducible refine Ext.set ?_ (by first | (simp; done) | (simp; omega)) _ | with_reducible refine Ext.next ?_ (by with_reducible assumption))) s0)
            have t1 : w5.cell? ⟨wo.heap.size, 1, none⟩ = some (.slice m.A m.xs.length m.k) := (hu5.cell (p := ⟨wo.heap.size, 1, none⟩) (by simp; omega) HNB.out).trans (keep (by repeat (first | with_reducible assumption | with_reducible exact Ext.refl _ | with_reducible apply Ext.drewN | with_reducible apply Ext.drew | with_reducible apply Ext.alloc | with_reducible refine Ext.set ?_ (by first | (simp; done) | (simp; omega)) _ | with_reducible refine Ext.next ?_ (by with_reducible assumption))) s2)
            have HN5 : Hid (¬ atB B5 wo.heap.size) := hid fun hb => by
              rcases hat _ hb with hb | hb
              · exact HNB.out hb
              · simp at hb; omega
            have HD5 : Hid ((ls2 ++ [(⟨wrap (m.c * m'.c), A3, k3, srt (m.xs ++ m'.xs)⟩ : Mn)]).map Mn.dat = prods ((ms.map Mn.dat).take i) (ms'.map Mn.dat) ++ row m.dat ((ms'.map Mn.dat).take (j + 1))) := hid (by
              rw [row_take (y := m'.dat) (by rw [List.getElem?_map, HM'.out]; rfl), ← List.append_assoc, ← HD2.out, List.map_append]
              rfl)
            clear ho5 hu5 hat hJ5 ho4 ho3
            go_wp2
            go_roundw
            case rel => exact ⟨j + 1, B5, kb5, _, by omega, by go_num, by simp, HO5.out, HD5.out, HX5.out, t0, t1, HN5.out⟩
            case measure => simp [intOf]; omega
          · obtain rfl : j = ms'.length := by omega
            have HD3 : Hid (ls2.map Mn.dat = prods ((ms.map Mn.dat).take (i + 1)) (ms'.map Mn.dat)) := hid (by
              rw [HD2.out, prods_take (x := m.dat) (by rw [List.getElem?_map, HM.out]; rfl), List.take_of_length_le (l := ms'.map Mn.dat) (by simp)])
            clear HD2
            go_wp2
            go_roundw
            case rel => exact ⟨i + 1, B2, kb2, ls2, by omega, by go_num, rfl, hls2, HD3.out, hxw⟩
            case measure => simp [intOf]; omega
      · obtain rfl : i = ms.length := by omega
        have HD3 : Hid (ls.map Mn.dat = prods (ms.map Mn.dat) (ms'.map Mn.dat)) := hid (by rw [HD.out, List.take_of_length_le (l := ms.map Mn.dat) (by simp)])
        have HX : Hid (∀ m ∈ ls, m.xs.length < 1048576) := hid fun m hm => by
          have hmd : m.dat ∈ prods (ms.map Mn.dat) (ms'.map Mn.dat) := HD3.out ▸ List.mem_map_of_mem hm
          obtain ⟨x, hx, z, hz, e⟩ := prods_mem hmd
          obtain ⟨x', hx', rfl⟩ := List.mem_map.1 hx
          obtain ⟨z', hz', rfl⟩ := List.mem_map.1 hz
          have e' : m.xs = srt (x'.xs ++ z'.xs) := e
          have h1 := HX1.out x' hx'
          have h2 := HX2.out z' hz'
          rw [e', srt_length, List.length_append]
          omega
        have HC : Hid (∀ m ∈ ls, 0 ≤ m.c ∧ m.c ≤ 65535) := hid fun m hm => by
          have hmd : m.dat ∈ prods (ms.map Mn.dat) (ms'.map Mn.dat) := HD3.out ▸ List.mem_map_of_mem hm
          unfold prods at hmd
          obtain ⟨x, hx, h⟩ := List.mem_flatMap.1 hmd
          obtain ⟨z, hz, e⟩ := List.mem_map.1 h
          have hb := wrap_bounds (x.1 * z.1)
          have e' : wrap (x.1 * z.1) = m.c := congrArg Prod.fst e
          omega
        have HT : Hid (∀ m ∈ ls, atomsOk m.xs) := hid fun m hm => prods_atoms HA.out HB.out m.dat (HD3.out ▸ List.mem_map_of_mem hm)
        have e2 := keep hext d2
        have p2 := keepf hext d2 g2
        have hl3 := lt_ext hext hl2
        have hx3 := hx2.next hext
        have hb3 : ∀ b, atB B b → w.heap.size + 1 + 1 < b := fun b hb => by have := (own_atB hls.1 hb).1; omega
        clear d0 d1 d2 g2 h2 h2' HD
        go_wp2_with fail
        refine (implSum_ _ _ _ _ ls _ hls rfl hsw (by omega) HX.out HC.out HT.out).mono ?_
        rintro e w5 ⟨A5, k5, ms5, rfl, hd5, ho5, hu5⟩
        have e5 : w5.cell? ⟨w.heap.size + 1 + 1, 0, none⟩ = some (.slice none 0 0) := (hu5.cell (p := ⟨w.heap.size + 1 + 1, 0, none⟩) (by simp only; omega) (fun hb => by have := hb3 _ hb; simp only at this; omega)).trans e2
        have p5 : w5.frozen? ⟨w.heap.size + 1 + 1, 0, none⟩ = false := (hu5.frozen (p := ⟨w.heap.size + 1 + 1, 0, none⟩) (by simp only; omega) (fun hb => by have := hb3 _ hb; simp only at this; omega)).trans p2
        have HX5 := hid (((Upd.of_ext hx3).next hu5).ext fun b hb => by have := hb3 b hb; omega)
        have HD5 : Hid (ms5.map Mn.dat = (fitP (norm (prods (ms.map Mn.dat) (ms'.map Mn.dat)))).1) := hid (by rw [← HD3.out]; exact hd5)
        have HE5 : Hid ((fitP (norm (ls.map Mn.dat))).2 = (fitP (norm (prods (ms.map Mn.dat) (ms'.map Mn.dat)))).2) := hid (by rw [HD3.out])
        have HO5 := hid ((ho5.set (p := ⟨w.heap.size + 1 + 1, 0, none⟩) (by simp only; omega) (.slice A5 ms5.length k5)).base (lo' := w.heap.size) (by omega))
        rw [HE5.out]
        clear hu5 hd5 ho5 e2 p2
        go_wp2
        refine bodyPost_ret (v := .tuple #[.agg #[.slice A5 ms5.length k5], .bool (fitP (norm (prods (ms.map Mn.dat) (ms'.map Mn.dat)))).2]) (by simp [results, Try.results13, go_sem, e5, p5]) rfl ⟨A5, k5, ms5, by rw [HP.out], by rw [HP.out]; exact HD5.out, HO5.out, HX5.out.set (by simp; omega) _⟩

set_option maxRecDepth 100000 in
set_option maxHeartbeats 1000000 in
theorem implPolScale (A : Option Addr) (k : Nat) (ms : List Mn) (n : Int) (w : World) (h : RN 73 3 w A k ms) (hs : SzM ms) :
    Calls Try.prog 23 #[.agg #[.slice A ms.length k], .int .i64 n] w (RetM 73 3 w (polScale (ms.map Mn.dat) n) (fun A n k => .agg #[.slice A n k])) := by
  cases ha : polOk (ms.map Mn.dat)
  · have HP := hid (polScale_no (a := ms.map Mn.dat) (n := n) (by rw [ha]; rfl))
    have HA := hid ha
    clear ha
    go_enter Try.func23, Try.ntmps23
    go_wp2_with fail
    refine (implPolOk _ _ _ _ (h.rm.ext (by repeat (first | with_reducible assumption | with_reducible exact Ext.refl _ | with_reducible apply Ext.drewN | with_reducible apply Ext.drew | with_reducible apply Ext.alloc | with_reducible refine Ext.set ?_ (by first | (simp; done) | (simp; omega)) _ | with_reducible refine Ext.next ?_ (by with_reducible assumption)))) hs).mono ?_
    rintro e w1 ⟨rfl, hw1⟩
    rw [HA.out]
    have c2 : w1.cell? ⟨w.heap.size + 1, 0, none⟩ = some (.slice none 0 0) := keep hw1 (by go_simp)
    have f2 : w1.frozen? ⟨w.heap.size + 1, 0, none⟩ = false := (hw1.frozen (by simp)).trans (by go_simp)
    have hx : Ext w w1 := (by repeat (first | with_reducible assumption | with_reducible exact Ext.refl _ | with_reducible apply Ext.drewN | with_reducible apply Ext.drew | with_reducible apply Ext.alloc | with_reducible refine Ext.set ?_ (by first | (simp; done) | (simp; omega)) _ | with_reducible refine Ext.next ?_ (by with_reducible assumption)))
    go_wp2
    refine bodyPost_ret (v := .agg #[.slice none 0 0]) (by simp [results, Try.results23, go_sem, c2, f2]) rfl ⟨none, 0, [], rfl, by rw [HP.out]; rfl, OM.nil _ _, hx.set (by simp) _⟩
  cases hn : wrdOk n
  · have HP := hid (polScale_no (a := ms.map Mn.dat) (n := n) (by rw [ha, hn]; rfl))
    have HA := hid ha
    have HN := hid hn
    clear ha hn
    go_enter Try.func23, Try.ntmps23
    go_wp2_with fail
    refine (implPolOk _ _ _ _ (h.rm.ext (by repeat (first | with_reducible assumption | with_reducible exact Ext.refl _ | with_reducible apply Ext.drewN | with_reducible apply Ext.drew | with_reducible apply Ext.alloc | with_reducible refine Ext.set ?_ (by first | (simp; done) | (simp; omega)) _ | with_reducible refine Ext.next ?_ (by with_reducible assumption)))) hs).mono ?_
    rintro e w1 ⟨rfl, hw1⟩
    rw [HA.out]
    have c2 : w1.cell? ⟨w.heap.size + 1, 0, none⟩ = some (.slice none 0 0) := keep hw1 (by go_simp)
    have f2 : w1.frozen? ⟨w.heap.size + 1, 0, none⟩ = false := (hw1.frozen (by simp)).trans (by go_simp)
    have hx : Ext w w1 := (by repeat (first | with_reducible assumption | with_reducible exact Ext.refl _ | with_reducible apply Ext.drewN | with_reducible apply Ext.drew | with_reducible apply Ext.alloc | with_reducible refine Ext.set ?_ (by first | (simp; done) | (simp; omega)) _ | with_reducible refine Ext.next ?_ (by with_reducible assumption)))
    have hl := World.block_lt_of_cell? _ _ c2
    simp only at hl
    go_wp2_with fail
    refine (implWrdOk _ _).mono ?_
    rintro e w2 ⟨rfl, rfl⟩
    rw [HN.out]
    go_wp2
    refine bodyPost_ret (v := .agg #[.slice none 0 0]) (by simp [results, Try.results23, go_sem, c2, f2]) rfl ⟨none, 0, [], rfl, by rw [HP.out]; rfl, OM.nil _ _, hx.set (by simp) _⟩
  · have HP := hid (const_mul ha hn)
    have HA := hid ha
    have HN := hid hn
    clear ha hn
    go_enter Try.func23, Try.ntmps23
    go_wp2_with fail
    refine (implPolOk _ _ _ _ (h.rm.ext (by repeat (first | with_reducible assumption | with_reducible exact Ext.refl _ | with_reducible apply Ext.drewN | with_reducible apply Ext.drew | with_reducible apply Ext.alloc | with_reducible refine Ext.set ?_ (by first | (simp; done) | (simp; omega)) _ | with_reducible refine Ext.next ?_ (by with_reducible assumption)))) hs).mono ?_
    rintro e w1 ⟨rfl, hw1⟩
    rw [HA.out]
    have c0 : w1.cell? ⟨w.heap.size, 0, none⟩ = some (.slice A ms.length k) := keep hw1 (by go_simp)
    have c2 : w1.cell? ⟨w.heap.size + 1, 0, none⟩ = some (.slice none 0 0) := keep hw1 (by go_simp)
    have f2 : w1.frozen? ⟨w.heap.size + 1, 0, none⟩ = false := (hw1.frozen (by simp)).trans (by go_simp)
    have hx : Ext w w1 := (by repeat (first | with_reducible assumption | with_reducible exact Ext.refl _ | with_reducible apply Ext.drewN | with_reducible apply Ext.drew | with_reducible apply Ext.alloc | with_reducible refine Ext.set ?_ (by first | (simp; done) | (simp; omega)) _ | with_reducible refine Ext.next ?_ (by with_reducible assumption)))
    have hl := World.block_lt_of_cell? _ _ c2
    simp only at hl
    have h1 := h.ext hx
    clear h hw1
    go_wp2_with fail
    refine (implWrdOk _ _).mono ?_
    rintro e w2 ⟨rfl, rfl⟩
    rw [HN.out]
    go_wp2
    go_region_held3 (fun w' => w'.cell? ⟨w.heap.size, 0, none⟩ = some (.slice A ms.length k) ∧ w'.cell? ⟨w.heap.size + 1, 0, none⟩ = some (.slice none 0 0)) (first | (refine ⟨?_, ?_⟩ <;> ((repeat (first | with_reducible assumption | with_reducible refine keep (Ext.alloc (Ext.refl _) _) ?_ | with_reducible refine keep (Ext.drew (Ext.refl _)) ?_ | with_reducible refine keep (Ext.drewN (Ext.refl _) _) ?_ | with_reducible refine keep (by with_reducible assumption) ?_)); done)) | (go_split_ands; (refine ⟨?_, ?_⟩ <;> (rw [World.cell?_setCell_far _ _ _ _ (by simp; omega)]; ((repeat (first | with_reducible assumption | with_reducible refine keep (Ext.alloc (Ext.refl _) _) ?_ | with_reducible refine keep (Ext.drew (Ext.refl _)) ?_ | with_reducible refine keep (Ext.drewN (Ext.refl _) _) ?_ | with_reducible refine keep (by with_reducible assumption) ?_)); done))))) (first | (go_at_call 26; (refine (implPolConst _ _).mono ?_); rintro e w3 ⟨A3, k3, ms3, rfl, hd3, ho3, hw3⟩; have HD3 := hid hd3; clear hd3; (have kca := fun h => hw3.cell (p := ⟨w1.heap.size, 0, none⟩) h); (have kfa := fun h => hw3.frozen (p := ⟨w1.heap.size, 0, none⟩) h); (have kfr3 : w3.frozen? ⟨w.heap.size + 1, 0, none⟩ = false := (hw3.frozen (by simp; omega)).trans (by go_simp)); (have hs3 := hw3.size); (try simp at hs3); (have hl3 : w.heap.size + 1 < w3.heap.size := by omega); (have kcr3 : w3.cell? ⟨w.heap.size + 1, 0, none⟩ = some (.slice none 0 0) := keep hw3 (by go_simp))) | (go_at_call 13; (refine (implPolMul _ _ _ _ ms ms3 _ (h1.ext (by repeat (first | with_reducible assumption | with_reducible exact Ext.refl _ | with_reducible apply Ext.drewN | with_reducible apply Ext.drew | with_reducible apply Ext.alloc | with_reducible refine Ext.set ?_ (by first | (simp; done) | (simp; omega)) _ | with_reducible refine Ext.next ?_ (by with_reducible assumption)))) (ho3.rn.ext (by repeat (first | with_reducible assumption | with_reducible exact Ext.refl _ | with_reducible apply Ext.drewN | with_reducible apply Ext.drew | with_reducible apply Ext.alloc | with_reducible refine Ext.set ?_ (by first | (simp; done) | (simp; omega)) _ | with_reducible refine Ext.next ?_ (by with_reducible assumption)))) hs (SzM.of_tot (by have := tot_const HD3.out; omega))).mono ?_); rintro e w4 ⟨A4, k4, ms4, rfl, hd4, ho4, hw4⟩; have HD4 := hid hd4; clear hd4; (have kcb := fun h => hw4.cell (p := ⟨w1.heap.size, 0, none⟩) h); (have kfb := fun h => hw4.frozen (p := ⟨w1.heap.size, 0, none⟩) h); (have kcc := fun h => hw4.cell (p := ⟨w3.heap.size, 0, none⟩) h); (have kfc := fun h => hw4.frozen (p := ⟨w3.heap.size, 0, none⟩) h); (have kfr4 : w4.frozen? ⟨w.heap.size + 1, 0, none⟩ = false := (hw4.frozen (by simp; omega)).trans (by go_simp)); (have hs4 := hw4.size); (try simp at hs4); (have hl4 : w.heap.size + 1 < w4.heap.size := by omega); (have kcr4 : w4.cell? ⟨w.heap.size + 1, 0, none⟩ = some (.slice none 0 0) := keep hw4 (by go_simp)); (try (have hlt13 : w1.heap.size < w3.heap.size := Nat.lt_of_lt_of_le (Nat.lt_succ_self _) hs3)); (try (have hlt14 : w1.heap.size < w4.heap.size := Nat.lt_of_lt_of_le hlt13 hs4)); (try (have hlt34 : w3.heap.size < w4.heap.size := Nat.lt_of_lt_of_le (Nat.lt_succ_self _) hs4))))
    all_goals
      have HD5 : Hid (ms4.map Mn.dat = polScale (ms.map Mn.dat) n) := hid (by rw [HD4.out, HD3.out, HP.out])
      have HO4 := hid ho4
      clear ho4 HD4
      go_wp2
    · refine bodyPost_ret (v := .agg #[.slice A4 ms4.length k4]) (by simp [results, Try.results23, go_sem, *]) rfl ⟨A4, k4, ms4, rfl, HD5.out, ?_, (by repeat (first | with_reducible assumption | with_reducible exact Ext.refl _ | with_reducible apply Ext.drewN | with_reducible apply Ext.drew | with_reducible apply Ext.alloc | with_reducible refine Ext.set ?_ (by first | (simp; done) | (simp; omega)) _ | with_reducible refine Ext.next ?_ (by with_reducible assumption)))⟩
      exact (((HO4.out.set (p := ⟨w.heap.size + 1, 0, none⟩) (by first | (simp; done) | omega | (simp; omega) | (simp only; omega)) _).ext (by repeat (first | with_reducible assumption | with_reducible exact Ext.refl _ | with_reducible apply Ext.drewN | with_reducible apply Ext.drew | with_reducible apply Ext.alloc | with_reducible refine Ext.set ?_ (by first | (simp; done) | (simp; omega)) _ | with_reducible refine Ext.next ?_ (by with_reducible assumption)))).base (by first | (simp; done) | omega | (simp; omega) | (simp only; omega)))
    · refine bodyPost_ret (v := .agg #[.slice A4 ms4.length k4]) (by simp [results, Try.results23, go_sem, *]) rfl ⟨A4, k4, ms4, rfl, HD5.out, ?_, (by repeat (first | with_reducible assumption | with_reducible exact Ext.refl _ | with_reducible apply Ext.drewN | with_reducible apply Ext.drew | with_reducible apply Ext.alloc | with_reducible refine Ext.set ?_ (by first | (simp; done) | (simp; omega)) _ | with_reducible refine Ext.next ?_ (by with_reducible assumption)))⟩
      exact (((HO4.out.set (by first | (simp; done) | omega | (simp; omega) | (simp only; omega)) _).set (by first | (simp; done) | omega | (simp; omega) | (simp only; omega)) _).base (by first | (simp; done) | omega | (simp; omega) | (simp only; omega)))
    · refine bodyPost_ret (v := .agg #[.slice A4 ms4.length k4]) (by simp [results, Try.results23, go_sem, *]) rfl ⟨A4, k4, ms4, rfl, HD5.out, ?_, (by repeat (first | with_reducible assumption | with_reducible exact Ext.refl _ | with_reducible apply Ext.drewN | with_reducible apply Ext.drew | with_reducible apply Ext.alloc | with_reducible refine Ext.set ?_ (by first | (simp; done) | (simp; omega)) _ | with_reducible refine Ext.next ?_ (by with_reducible assumption)))⟩
      exact (((HO4.out.set (by first | (simp; done) | omega | (simp; omega) | (simp only; omega)) _).set (by first | (simp; done) | omega | (simp; omega) | (simp only; omega)) _).base (by first | (simp; done) | omega | (simp; omega) | (simp only; omega)))
end Go.Proofs.Ytcgelcaepkakaaa
