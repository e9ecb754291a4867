/- Rows that grow by append: words, and the laws of append turned to them; no program in sight. Conditions: lengths that a machine can hold. -/
import Derived.Test.YtkdggfkigjpbfaaM
import Derived.Laws.AppendOwnNone
namespace Go.Proofs.Ytkdggfkigjpbfaa
open Go Go.RowKit
set_option linter.unusedVariables false
set_option linter.unusedSimpArgs false

theorem addr_add (b o n : Nat) : (⟨b, o, none⟩ : Addr).add n = ⟨b, o + n, none⟩ := by unfold Addr.add; split <;> simp_all
theorem Row.keepB {T : TypeId} {w w' : World} {A : Option Addr} {cs : List Value} (h : Row T w A cs) (hb : ∀ (b : Nat) (c : Array Value) (fr : Nat × Nat), w.heap[b]? = some (Obj.cells c T fr) → w'.heap[b]? = w.heap[b]?) : Row T w' A cs := fun hn =>
  let ⟨b, o, c, fr, h1, h2, h3⟩ := h hn
  ⟨b, o, c, fr, h1, (hb b c fr h2).trans h2, h3⟩
theorem own_shape {w : World} {lo T s n : Nat} {v : Value} {xs : List Value} (h : w.ownsRow lo T s v n xs) : ∃ A k, v = .slice A n k ∧ (A = none → k = 0) := by
  rcases h.2 with ⟨rfl, rfl⟩ | ⟨g, cap, cur, rfl, _⟩
  · exact ⟨none, 0, rfl, fun _ => rfl⟩
  · exact ⟨_, _, rfl, fun h => by cases h⟩
theorem own_nilOk {w : World} {lo T s n k : Nat} {A : Option Addr} {xs : List Value} (h : w.ownsRow lo T s (.slice A n k) n xs) : A = none → k = 0 := by
  obtain ⟨A', k', e, hz⟩ := own_shape h
  injection e with e1 _ e2
  subst e1 e2
  exact hz
theorem own_le {w : World} {lo T s n k : Nat} {A : Option Addr} {xs : List Value} (h : w.ownsRow lo T s (.slice A n k) n xs) : n ≤ k := by
  rcases h.2 with ⟨e, h0⟩ | ⟨g, cap, cur, e, _, _, hc, _⟩
  · omega
  · injection e with _ _ e
    omega
theorem own_block {A : Option Addr} {n k b : Nat} (h : some b = (Value.slice A n k).ownBlock) : atB A b := by
  rcases A with _ | ⟨b', o, s⟩
  · simp [Value.ownBlock] at h
  · simp [Value.ownBlock] at h
    subst h
    exact ⟨o, s, rfl⟩
theorem own_other {w : World} {lo T T' s n : Nat} {v : Value} {xs : List Value} (hT : T ≠ T') (h : w.ownsRow lo T s v n xs) {b : Nat} {c : Array Value} {fr : Nat × Nat} (hb : w.heap[b]? = some (.cells c T' fr)) : v.ownBlock ≠ some b := by
  rcases h.2 with ⟨rfl, _⟩ | ⟨g, cap, cur, rfl, _, hg, _⟩
  · simp [Value.ownBlock]
  · simp only [Value.ownBlock, ne_eq, Option.some.injEq]
    rintro rfl
    rw [hg] at hb
    injection hb with hb
    injection hb with _ e _
    exact hT e
theorem grown_other {w w' : World} {lo T T' s n : Nat} {v : Value} {xs : List Value} (hT : T ≠ T') (h : w.ownsRow lo T s v n xs) (hg : w.grownBy w' v.ownBlock) : ∀ (b : Nat) (c : Array Value) (fr : Nat × Nat), w.heap[b]? = some (Obj.cells c T' fr) → w'.heap[b]? = w.heap[b]? :=
  fun b c fr hb => hg.block b (lt_of_heap hb) fun e => own_other hT h hb e.symm
theorem grown_upd {w w' : World} {A : Option Addr} {n k : Nat} (hg : w.grownBy w' (Value.slice A n k).ownBlock) : Upd (atB A) w w' :=
  ⟨hg.os, hg.tape, hg.output, hg.size, fun b hb hs => hg.block b hb fun e => hs (own_block e)⟩

/-- Atoms that read; what is at no address has no room. -/
def RJ (TI : TypeId) (w : World) (m : Mn) : Prop := RI TI w m.A m.xs ∧ (m.A = none → m.k = 0) ∧ m.xs.length ≤ m.k
/-- Parts that read, so. -/
def RN (TM TI : TypeId) (w : World) (A : Option Addr) (k : Nat) (ms : List Mn) : Prop := (Row TM w A (ms.flatMap Mn.cells) ∧ (A = none → k = 0)) ∧ ∀ m ∈ ms, RJ TI w m
/-- A row of parts that a call owns; their atoms read. -/
def LM (TM TI : TypeId) (w : World) (lo : Nat) (A : Option Addr) (k : Nat) (ms : List Mn) : Prop := w.ownsRow lo TM 2 (.slice A ms.length k) ms.length (ms.flatMap Mn.cells) ∧ ∀ m ∈ ms, RJ TI w m
section
variable {TM TI : TypeId} {w w' : World} {lo k : Nat} {A : Option Addr} {ms : List Mn} {m : Mn} {xs : List Int}
theorem RJ.ext (h : RJ TI w m) (he : Ext w w') : RJ TI w' m := ⟨h.1.ext he, h.2⟩
theorem RJ.of_own (h : OI TI w lo m.A m.k m.xs) : RJ TI w m := ⟨h.ri, own_nilOk h, own_le h⟩
theorem RN.ext (h : RN TM TI w A k ms) (he : Ext w w') : RN TM TI w' A k ms := ⟨⟨h.1.1.ext he, h.1.2⟩, fun m hm => (h.2 m hm).ext he⟩
theorem RN.rm (h : RN TM TI w A k ms) : RM TM TI w A ms := ⟨h.1.1, fun m hm => (h.2 m hm).1⟩
theorem RN.at_ (h : RN TM TI w A k ms) {i : Nat} (hi : i < ms.length) : ∃ b o m, A = some ⟨b, o, none⟩ ∧ b < w.heap.size ∧ ms[i]? = some m ∧
    w.cell? ⟨b, o + i * 2, none⟩ = some (.int .i64 m.c) ∧ w.cell? ⟨b, o + i * 2 + 1, none⟩ = some (.slice m.A m.xs.length m.k) ∧ RJ TI w m := by
  obtain ⟨b, o, m, h1, h2, h3, h4, h5, _⟩ := h.rm.at_ hi
  exact ⟨b, o, m, h1, h2, h3, h4, h5, h.2 m (List.mem_of_getElem? h3)⟩
theorem LM.rn (h : LM TM TI w lo A k ms) : RN TM TI w A k ms := ⟨⟨Row.of_own h.1, own_nilOk h.1⟩, h.2⟩
theorem LM.rm (h : LM TM TI w lo A k ms) : RM TM TI w A ms := h.rn.rm
theorem LM.ext (h : LM TM TI w lo A k ms) (he : Ext w w') : LM TM TI w' lo A k ms := ⟨own_ext h.1 he, fun m hm => (h.2 m hm).ext he⟩
theorem LM.base {lo' : Nat} (h : LM TM TI w lo A k ms) (hl : lo' ≤ lo) : LM TM TI w lo' A k ms := ⟨own_base h.1 hl, h.2⟩
theorem LM.nil (w : World) (lo : Nat) : LM TM TI w lo none 0 [] := ⟨⟨rfl, .inl ⟨rfl, rfl⟩⟩, fun _ h => by cases h⟩
theorem LM.made (w : World) {lo : Nat} (hl : lo ≤ w.heap.size) : LM TM TI (w.alloc (.cells #[] TM)) lo (some ⟨w.heap.size, 0, none⟩) 0 [] := ⟨World.ownsRow_made w #[] 0 hl (by unfold maxLen; omega) rfl, fun _ h => by cases h⟩
theorem OI.made (w : World) {lo : Nat} (hl : lo ≤ w.heap.size) : OI TI (w.alloc (.cells #[] TI)) lo (some ⟨w.heap.size, 0, none⟩) 0 [] := World.ownsRow_made w #[] 0 hl (by unfold maxLen; omega) rfl
theorem OM.lm (h : OM TM TI w lo A k ms) : LM TM TI w lo A k ms := ⟨h.1, fun m hm => RJ.of_own (h.2.1 m hm)⟩
theorem OM.rn (h : OM TM TI w lo A k ms) : RN TM TI w A k ms := h.lm.rn
theorem LM.foot_ (h : LM TM TI w lo A k ms) {b : Nat} (hb : atB A b) : lo ≤ b ∧ b < w.heap.size := own_atB h.1 hb
end

section
variable {P : Program} {TM TI TS : TypeId} {w : World} {ops : Array Oper} {rest : List Oper} {o : Oper} {a : Act} {Q : Exit → Act → World → Prop}
theorem flat_snoc (ms : List Mn) (m : Mn) : (ms ++ [m]).flatMap Mn.cells = ms.flatMap Mn.cells ++ m.cells := by rw [List.flatMap_append]; rfl
/-- 'append(list, m)' of one part. -/
theorem app_mono (hT : TM ≠ TI) (ht : P.underlying TS = some (.slice TM)) (hinf : (P.info? TM).map (fun i => (i.zero, i.size, i.bytes)) = some (some (.agg #[.int .i64 0, .slice none 0 0]), 2, 32))
    (hgd : o.guard = none) (s x : Operand) (ho : o.op = .call { callee := .builtin .append, args := #[s, x], argTypes := #[TS, TS] })
    (lo : Nat) (A : Option Addr) (k : Nat) (ms : List Mn) (hown : LM TM TI w lo A k ms) (n : Nat) (hln : ms.length = n) (hs : a.eval s = .slice A n k) (m : Mn) (ad : Addr) (kx : Nat) (hx : a.eval x = .slice (some ad) 1 kx)
    (hc0 : w.cell? (ad.add 0) = some (.int .i64 m.c)) (hc1 : w.cell? (ad.add 1) = some (.slice m.A m.xs.length m.k)) (hm : RJ TI w m) (hn : n < 1099511627776) (hlo : lo ≤ w.heap.size)
    (h : ∀ A' k' w', LM TM TI w' lo A' k' (ms ++ [m]) → Upd (atB A) w w' → wpList P ops Q rest (a.put o.dst (.slice A' (n + 1) k')) w') : wpList P ops Q (o :: rest) a w := by
  subst hln
  obtain ⟨i, hi, hz, hz1, hz2⟩ := info_parts hinf
  refine wpList_append_own w hgd s x TS ho lo TM i _ 2 32 ht hi hz hz1 hz2 rfl (by decide) _ ms.length _ hs hown.1 ad 1 kx m.cells hx rfl ?_ ?_ (by unfold maxLen; omega) (by omega) hlo ?_
  · intro j u hj
    match j, hj with
    | 0, hj => injection hj with hj; subst hj; exact hc0
    | 1, hj => injection hj with hj; subst hj; exact hc1
  · intro u hu
    rcases List.mem_cons.1 hu with rfl | hu
    · rfl
    · rcases List.mem_cons.1 hu with rfl | hu
      · rfl
      · cases hu
  · intro v' w' ho' hg _
    obtain ⟨A', k', rfl, hnil⟩ := own_shape ho'
    have hk := grown_other hT hown.1 hg
    refine h A' k' w' ⟨?_, fun x hx => ?_⟩ (grown_upd hg)
    · rw [flat_snoc, List.length_append]
      exact ho'
    · rcases List.mem_append.1 hx with hx | hx
      · exact ⟨(hown.2 x hx).1.keepB hk, (hown.2 x hx).2⟩
      · rw [List.mem_singleton.1 hx]
        exact ⟨hm.1.keepB hk, hm.2⟩
/-- 'append(list, m)' of one part with atoms of its own, younger than all. -/
theorem app_own (hT : TM ≠ TI) (ht : P.underlying TS = some (.slice TM)) (hinf : (P.info? TM).map (fun i => (i.zero, i.size, i.bytes)) = some (some (.agg #[.int .i64 0, .slice none 0 0]), 2, 32))
    (hgd : o.guard = none) (s x : Operand) (ho : o.op = .call { callee := .builtin .append, args := #[s, x], argTypes := #[TS, TS] })
    (lo : Nat) (A : Option Addr) (k : Nat) (ms : List Mn) (hown : OM TM TI w lo A k ms) (n : Nat) (hln : ms.length = n) (hs : a.eval s = .slice A n k) (m : Mn) (ad : Addr) (kx : Nat) (hx : a.eval x = .slice (some ad) 1 kx)
    (hc0 : w.cell? (ad.add 0) = some (.int .i64 m.c)) (hc1 : w.cell? (ad.add 1) = some (.slice m.A m.xs.length m.k)) (hm : OI TI w lo m.A m.k m.xs) (hy : ∀ a ∈ ms, ∀ x, atB a.A x → ¬ atB m.A x) (hn : n < 1099511627776) (hlo : lo ≤ w.heap.size)
    (h : ∀ A' k' w', OM TM TI w' lo A' k' (ms ++ [m]) → Upd (atB A) w w' → wpList P ops Q rest (a.put o.dst (.slice A' (n + 1) k')) w') : wpList P ops Q (o :: rest) a w := by
  subst hln
  obtain ⟨i, hi, hz, hz1, hz2⟩ := info_parts hinf
  refine wpList_append_own w hgd s x TS ho lo TM i _ 2 32 ht hi hz hz1 hz2 rfl (by decide) _ ms.length _ hs hown.1 ad 1 kx m.cells hx rfl ?_ ?_ (by unfold maxLen; omega) (by omega) hlo ?_
  · intro j u hj
    match j, hj with
    | 0, hj => injection hj with hj; subst hj; exact hc0
    | 1, hj => injection hj with hj; subst hj; exact hc1
  · intro u hu
    rcases List.mem_cons.1 hu with rfl | hu
    · rfl
    · rcases List.mem_cons.1 hu with rfl | hu
      · rfl
      · cases hu
  · intro v' w' ho' hg _
    obtain ⟨A', k', rfl, hnil⟩ := own_shape ho'
    have hk := grown_other hT hown.1 hg
    have keep1 : ∀ {x : Mn}, OI TI w lo x.A x.k x.xs → OI TI w' lo x.A x.k x.xs := fun {x} hx => by
      refine ⟨hx.1, ?_⟩
      rcases hx.2 with hx | ⟨g, cap, cur, e, hb, hg', r⟩
      · exact .inl hx
      · exact .inr ⟨g, cap, cur, e, hb, (hk _ _ _ hg').trans hg', r⟩
    refine h A' k' w' ⟨?_, fun x hx => ?_, ?_⟩ (grown_upd hg)
    · rw [flat_snoc, List.length_append]
      exact ho'
    · rcases List.mem_append.1 hx with hx | hx
      · exact keep1 (hown.2.1 x hx)
      · rw [List.mem_singleton.1 hx]
        exact keep1 hm
    · rw [List.pairwise_append]
      exact ⟨hown.2.2, List.pairwise_singleton _ _, fun a ha b hb => by rw [List.mem_singleton.1 hb]; exact hy a ha⟩
/-- 'append(list, x)' of one int. -/
theorem app_int (ht : P.underlying TS = some (.slice TI)) (hinf : (P.info? TI).map (fun i => (i.zero, i.size, i.bytes)) = some (some (.int .i64 0), 1, 8))
    (hgd : o.guard = none) (s x : Operand) (ho : o.op = .call { callee := .builtin .append, args := #[s, x], argTypes := #[TS, TS] })
    (lo : Nat) (A : Option Addr) (k : Nat) (xs : List Int) (hown : OI TI w lo A k xs) (n : Nat) (hln : xs.length = n) (hs : a.eval s = .slice A n k) (c : Int) (ad : Addr) (kx : Nat) (hx : a.eval x = .slice (some ad) 1 kx)
    (hc0 : w.cell? (ad.add 0) = some (.int .i64 c)) (hn : n < 1099511627776) (hlo : lo ≤ w.heap.size)
    (h : ∀ A' k' w', OI TI w' lo A' k' (xs ++ [c]) → Upd (atB A) w w' → wpList P ops Q rest (a.put o.dst (.slice A' (n + 1) k')) w') : wpList P ops Q (o :: rest) a w := by
  subst hln
  obtain ⟨i, hi, hz, hz1, hz2⟩ := info_parts hinf
  refine wpList_append_own w hgd s x TS ho lo TI i _ 1 8 ht hi hz hz1 hz2 rfl (by decide) _ xs.length _ hs hown ad 1 kx [.int .i64 c] hx rfl ?_ ?_ (by unfold maxLen; omega) (by omega) hlo ?_
  · intro j u hj
    match j, hj with
    | 0, hj => injection hj with hj; subst hj; exact hc0
  · intro u hu
    rw [List.mem_singleton.1 hu]
    rfl
  · intro v' w' ho' hg _
    obtain ⟨A', k', rfl, hnil⟩ := own_shape ho'
    refine h A' k' w' ?_ (grown_upd hg)
    unfold OI
    rw [List.map_append, List.length_append]
    exact ho'
/-- 'append(list, ys...)' of ints. -/
theorem app_ints (ht : P.underlying TS = some (.slice TI)) (hinf : (P.info? TI).map (fun i => (i.zero, i.size, i.bytes)) = some (some (.int .i64 0), 1, 8))
    (hgd : o.guard = none) (s x : Operand) (ho : o.op = .call { callee := .builtin .append, args := #[s, x], argTypes := #[TS, TS] })
    (lo : Nat) (A : Option Addr) (k : Nat) (xs : List Int) (hown : OI TI w lo A k xs) (n : Nat) (hln : xs.length = n) (hs : a.eval s = .slice A n k) (B : Option Addr) (kb : Nat) (ys : List Int) (m : Nat) (hlm : ys.length = m) (hx : a.eval x = .slice B m kb)
    (hy : RI TI w B ys) (hnil : B = none → kb = 0) (r : Nat) (hr : n + m = r) (hn : r < 1099511627776) (hlo : lo ≤ w.heap.size)
    (h : ∀ A' k' w', OI TI w' lo A' k' (xs ++ ys) → Upd (atB A) w w' → wpList P ops Q rest (a.put o.dst (.slice A' r k')) w') : wpList P ops Q (o :: rest) a w := by
  subst hln hlm hr
  obtain ⟨i, hi, hz, hz1, hz2⟩ := info_parts hinf
  rcases B with _ | ad
  · have he : ys = [] := by
      rcases ys with _ | ⟨y, ys⟩
      · rfl
      · obtain ⟨_, _, _, _, e, _⟩ := hy (by simp)
        cases e
    subst he
    rw [hnil rfl] at hx
    refine wpList_append_own_none hgd s x TS ho lo TI i 1 ht hi _ xs.length _ hs hown hx ?_
    have := h A k w (by rw [List.append_nil]; exact hown) (Upd.refl _ _)
    exact this
  · refine wpList_append_own w hgd s x TS ho lo TI i _ 1 8 ht hi hz hz1 hz2 rfl (by decide) _ xs.length _ hs hown ad ys.length kb (ys.map (Value.int .i64)) hx (by simp) ?_ ?_ (by unfold maxLen; omega) (by omega) hlo ?_
    · intro j u hj
      obtain ⟨b, o', e, _, hc⟩ := Row.at_ hy hj
      injection e with e
      subst e
      rw [addr_add]
      exact hc
    · intro u hu
      obtain ⟨y, _, rfl⟩ := List.mem_map.1 hu
      rfl
    · intro v' w' ho' hg _
      obtain ⟨A', k', rfl, _⟩ := own_shape ho'
      refine h A' k' w' ?_ (grown_upd hg)
      unfold OI
      rw [List.map_append, List.length_append]
      exact ho'
/-- 'append(list, ys...)' of parts. -/
theorem app_monos (hT : TM ≠ TI) (ht : P.underlying TS = some (.slice TM)) (hinf : (P.info? TM).map (fun i => (i.zero, i.size, i.bytes)) = some (some (.agg #[.int .i64 0, .slice none 0 0]), 2, 32))
    (hgd : o.guard = none) (s x : Operand) (ho : o.op = .call { callee := .builtin .append, args := #[s, x], argTypes := #[TS, TS] })
    (lo : Nat) (A : Option Addr) (k : Nat) (ms : List Mn) (hown : LM TM TI w lo A k ms) (n : Nat) (hln : ms.length = n) (hs : a.eval s = .slice A n k) (B : Option Addr) (kb : Nat) (ys : List Mn) (m : Nat) (hlm : ys.length = m) (hx : a.eval x = .slice B m kb)
    (hy : RN TM TI w B kb ys) (r : Nat) (hr : n + m = r) (hn : r < 1099511627776) (hlo : lo ≤ w.heap.size)
    (h : ∀ A' k' w', LM TM TI w' lo A' k' (ms ++ ys) → Upd (atB A) w w' → wpList P ops Q rest (a.put o.dst (.slice A' r k')) w') : wpList P ops Q (o :: rest) a w := by
  subst hln hlm hr
  obtain ⟨i, hi, hz, hz1, hz2⟩ := info_parts hinf
  have hlen : (ys.flatMap Mn.cells).length = ys.length * 2 := flat_length (f := Mn.cells) (s := 2) (fun _ => rfl) ys
  rcases B with _ | ad
  · have he : ys = [] := by
      rcases ys with _ | ⟨y, ys⟩
      · rfl
      · obtain ⟨_, _, _, _, e, _⟩ := hy.1.1 (by simp [Mn.cells])
        cases e
    subst he
    rw [hy.1.2 rfl] at hx
    refine wpList_append_own_none hgd s x TS ho lo TM i 2 ht hi _ ms.length _ hs hown.1 hx ?_
    have := h A k w (by rw [List.append_nil]; exact hown) (Upd.refl _ _)
    exact this
  · refine wpList_append_own w hgd s x TS ho lo TM i _ 2 32 ht hi hz hz1 hz2 rfl (by decide) _ ms.length _ hs hown.1 ad ys.length kb (ys.flatMap Mn.cells) hx hlen ?_ ?_ (by unfold maxLen; omega) (by omega) hlo ?_
    · intro j u hj
      obtain ⟨b, o', e, _, hc⟩ := Row.at_ hy.1.1 hj
      injection e with e
      subst e
      rw [addr_add]
      exact hc
    · intro u hu
      obtain ⟨y, _, hu⟩ := List.mem_flatMap.1 hu
      rcases List.mem_cons.1 hu with rfl | hu
      · rfl
      · rcases List.mem_cons.1 hu with rfl | hu
        · rfl
        · cases hu
    · intro v' w' ho' hg _
      obtain ⟨A', k', rfl, hnil⟩ := own_shape ho'
      have hk := grown_other hT hown.1 hg
      refine h A' k' w' ⟨?_, fun x hx => ?_⟩ (grown_upd hg)
      · rw [List.flatMap_append, List.length_append]
        exact ho'
      · rcases List.mem_append.1 hx with hx | hx
        · exact ⟨(hown.2 x hx).1.keepB hk, (hown.2 x hx).2⟩
        · exact ⟨(hy.2 x hx).1.keepB hk, (hy.2 x hx).2⟩
end
end Go.Proofs.Ytkdggfkigjpbfaa
