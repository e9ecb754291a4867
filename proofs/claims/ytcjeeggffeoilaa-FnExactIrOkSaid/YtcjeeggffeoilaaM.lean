/- Words for memory that a call owns, and for arguments; no program in sight. Conditions: none. -/
import Derived.Test.YtcjeeggffeoilaaL
import Derived.OneCell
import Derived.Laws.MakeOwn
namespace Go.Proofs.Ytcjeeggffeoilaa
open Go Go.RowKit
set_option linter.unusedVariables false
set_option linter.unusedSimpArgs false

/-! ### what came in: cells, in blocks of whatever make -/
def AR (w : World) (A : Option Addr) (cs : List Value) : Prop := cs ≠ [] → ∃ b o, A = some ⟨b, o, none⟩ ∧ ∀ j u, cs[j]? = some u → w.cell? ⟨b, o + j, none⟩ = some u
theorem AR.ext {w w' : World} {A : Option Addr} {cs : List Value} (h : AR w A cs) (he : Ext w w') : AR w' A cs := fun hn =>
  let ⟨b, o, h1, h2⟩ := h hn
  ⟨b, o, h1, fun j u hu => keep he (h2 j u hu)⟩
theorem AR.at_ {w : World} {A : Option Addr} {cs : List Value} (h : AR w A cs) {j : Nat} {u : Value} (hu : cs[j]? = some u) : ∃ b o, A = some ⟨b, o, none⟩ ∧ b < w.heap.size ∧ w.cell? ⟨b, o + j, none⟩ = some u := by
  obtain ⟨b, o, h1, h2⟩ := h (by rintro rfl; simp at hu)
  exact ⟨b, o, h1, World.block_lt_of_cell? w _ (h2 j u hu), h2 j u hu⟩
theorem AR.nil (w : World) (A : Option Addr) : AR w A [] := fun h => absurd rfl h
def AI (w : World) (A : Option Addr) (xs : List Int) : Prop := AR w A (xs.map (Value.int .i64))
theorem AI.ext {w w' : World} {A : Option Addr} {xs : List Int} (h : AI w A xs) (he : Ext w w') : AI w' A xs := AR.ext h he
theorem AI.at_ {w : World} {A : Option Addr} {xs : List Int} (h : AI w A xs) {i : Nat} (hi : i < xs.length) : ∃ b o x, A = some ⟨b, o, none⟩ ∧ b < w.heap.size ∧ xs[i]? = some x ∧ w.cell? ⟨b, o + i, none⟩ = some (.int .i64 x) := by
  obtain ⟨b, o, h1, h2, h3⟩ := AR.at_ h (j := i) (u := .int .i64 xs[i]) (by simp [List.getElem?_eq_getElem hi])
  exact ⟨b, o, xs[i], h1, h2, List.getElem?_eq_getElem hi, h3⟩
def AM (w : World) (A : Option Addr) (ms : List Mn) : Prop := AR w A (ms.flatMap Mn.cells) ∧ ∀ m ∈ ms, AI w m.A m.xs
theorem AM.ext {w w' : World} {A : Option Addr} {ms : List Mn} (h : AM w A ms) (he : Ext w w') : AM w' A ms := ⟨h.1.ext he, fun m hm => (h.2 m hm).ext he⟩
theorem AM.at_ {w : World} {A : Option Addr} {ms : List Mn} (h : AM w A ms) {i : Nat} (hi : i < ms.length) : ∃ b o m, A = some ⟨b, o, none⟩ ∧ b < w.heap.size ∧ ms[i]? = some m ∧
    w.cell? ⟨b, o + i * 2, none⟩ = some (.int .i64 m.c) ∧ w.cell? ⟨b, o + i * 2 + 1, none⟩ = some (.slice m.A m.xs.length m.k) ∧ AI w m.A m.xs := by
  have hm : ms[i]? = some ms[i] := List.getElem?_eq_getElem hi
  have hl : ∀ a : Mn, a.cells.length = 2 := fun _ => rfl
  obtain ⟨b, o, h1, h2, h3⟩ := AR.at_ h.1 (j := i * 2 + 0) (u := .int .i64 ms[i].c) (by rw [flat_at hl _ _ _ (by omega), hm]; rfl)
  obtain ⟨b', o', h1', _, h3'⟩ := AR.at_ h.1 (j := i * 2 + 1) (u := .slice ms[i].A ms[i].xs.length ms[i].k) (by rw [flat_at hl _ _ _ (by omega), hm]; rfl)
  rw [h1] at h1'
  injection h1' with h1'
  injection h1' with e1 e2 _
  subst e1 e2
  exact ⟨b, o, ms[i], h1, h2, hm, h3, h3', h.2 _ (List.getElem_mem hi)⟩

/-! ### what a call owns -/
theorem Ext.by_ {w a : World} (h : Ext w a) : w.grownBy a none := ⟨h.os, h.tape, h.output, h.size, fun k hk _ => h.block hk⟩
theorem own_ext {w a : World} {lo : Nat} {T size n : Nat} {v : Value} {xs : List Value} (h : w.ownsRow lo T size v n xs) (he : Ext w a) : a.ownsRow lo T size v n xs :=
  h.kept he.by_ (by cases hv : v.ownBlock <;> simp)
theorem own_upd {S : Nat → Prop} {w a : World} {lo : Nat} {T size n : Nat} {v : Value} {xs : List Value} (h : w.ownsRow lo T size v n xs) (he : Upd S w a) (hs : ∀ b, v.ownBlock = some b → ¬ S b) : a.ownsRow lo T size v n xs := by
  refine ⟨h.1, ?_⟩
  rcases h.2 with hn | ⟨g, cap, cur, rfl, hb, hg, r⟩
  · exact .inl hn
  · exact .inr ⟨g, cap, cur, rfl, hb, (he.block g (lt_of_heap hg) (hs g rfl)).trans hg, r⟩
theorem own_base {w : World} {lo lo' : Nat} {T size n : Nat} {v : Value} {xs : List Value} (h : w.ownsRow lo T size v n xs) (hl : lo' ≤ lo) : w.ownsRow lo' T size v n xs := by
  refine ⟨h.1, ?_⟩
  rcases h.2 with hn | ⟨g, cap, cur, rfl, hb, r⟩
  · exact .inl hn
  · exact .inr ⟨g, cap, cur, rfl, by omega, r⟩
theorem own_of_row {w : World} {g T n lo : Nat} {f : Nat → Value} (h : w.rowIs g T n f) (hl : lo ≤ g) (hm : n ≤ maxLen) : w.ownsRow lo T 1 (.slice (some ⟨g, 0, none⟩) n n) n ((List.range n).map f) := by
  obtain ⟨c, hg, hc, hf⟩ := h
  refine ⟨by simp, .inr ⟨g, n, c, rfl, hl, hg, Nat.le_refl _, hm, by omega, ?_⟩⟩
  apply List.ext_getElem?
  intro i
  rw [List.getElem?_take]
  by_cases hi : i < n
  · rw [if_pos (by omega), List.getElem?_map, List.getElem?_range hi, Array.getElem?_toList, hf i hi]
    rfl
  · rw [if_neg (by omega), List.getElem?_eq_none (by simp; omega)]

theorem row_ext {w a : World} {g T n : Nat} {f : Nat → Value} (h : w.rowIs g T n f) (he : Ext w a) : a.rowIs g T n f := h.of_block (he.block h.lt)
theorem run_make_rowN {P : Program} (t e : TypeId) (z : Value) (size bytes : Nat) (ht : P.underlying t = some (.slice e)) (hinfo : (P.info? e).map (fun i => (i.zero, i.size, i.bytes)) = some (some z, size, bytes))
    (kl kc : IntKind) (n : Nat) (hbytes : bytes * n ≤ 281474976710656) (h63 : n ≤ 9223372036854775807) (w : World) :
    (Instr.makeSlice t (.int kl (n : Int)) (.int kc (n : Int))).run P w = .ok (.slice (some ⟨w.heap.size, 0, none⟩) n n) (w.alloc (.cells (madeCells z.cells (n * size)) e)) := by
  obtain ⟨i, hi, hzz⟩ := Option.map_eq_some_iff.1 hinfo
  simp only [Prod.mk.injEq] at hzz
  obtain ⟨hz, hs, hb⟩ := hzz
  have hb' : (i.bytes : Int) * (n : Int) ≤ 281474976710656 := by
    have h : ((i.bytes * n : Nat) : Int) ≤ 281474976710656 := by rw [hb]; omega
    rwa [Int.natCast_mul] at h
  have hr := run_make (P := P) w t e i z ht hi hz kl kc n n (by omega) (Int.le_refl _) hb' (by omega)
  simp only [Int.toNat_natCast] at hr
  rw [hr, hs]
theorem row_made (w : World) (z : Array Value) (n : Nat) (t : TypeId) : (w.alloc (.cells (madeCells z n) t)).rowIs w.heap.size t n (fun i => (madeCells z n)[i]?.getD undef) :=
  ⟨_, heap_alloc_new w _, size_madeCells _ _, fun i hi => by
    have hs : i < (madeCells z n).size := by rw [size_madeCells]; exact hi
    simp only [Array.getElem?_eq_getElem hs, Option.getD_some]⟩

/-- A slice that owns the ints xs, in a block from lo on. -/
def OI (TI : TypeId) (w : World) (lo : Nat) (A : Option Addr) (k : Nat) (xs : List Int) : Prop := w.ownsRow lo TI 1 (.slice A xs.length k) xs.length (xs.map (Value.int .i64))
theorem OI.ri {TI : TypeId} {w : World} {lo k : Nat} {A : Option Addr} {xs : List Int} (h : OI TI w lo A k xs) : RI TI w A xs := Row.of_own h
theorem OI.ext {TI : TypeId} {w a : World} {lo k : Nat} {A : Option Addr} {xs : List Int} (h : OI TI w lo A k xs) (he : Ext w a) : OI TI a lo A k xs := own_ext h he
theorem OI.base {TI : TypeId} {w : World} {lo lo' k : Nat} {A : Option Addr} {xs : List Int} (h : OI TI w lo A k xs) (hl : lo' ≤ lo) : OI TI w lo' A k xs := own_base h hl

theorem OI.set {TI : TypeId} {w : World} {lo k : Nat} {A : Option Addr} {xs : List Int} (h : OI TI w lo A k xs) {p : Addr} (hp : p.block < lo) (v : Value) : OI TI (w.setCell p v) lo A k xs := ownsRow_setCell_below h hp v

/-- The block of an address. -/
def atB (A : Option Addr) (b : Nat) : Prop := ∃ o s, A = some ⟨b, o, s⟩
theorem own_atB {w : World} {lo T size n k : Nat} {A : Option Addr} {xs : List Value} (h : w.ownsRow lo T size (.slice A n k) n xs) {b : Nat} (hb : atB A b) : lo ≤ b ∧ b < w.heap.size := by
  obtain ⟨o, s, rfl⟩ := hb
  exact h.lt b rfl
theorem own_upd' {S : Nat → Prop} {w a : World} {lo T size n k : Nat} {A : Option Addr} {xs : List Value} (h : w.ownsRow lo T size (.slice A n k) n xs) (he : Upd S w a) (hs : ∀ b, atB A b → ¬ S b) : a.ownsRow lo T size (.slice A n k) n xs :=
  own_upd h he fun b hb => hs b (by
    rcases A with _ | ⟨b', o, s⟩
    · simp [Value.ownBlock] at hb
    · simp [Value.ownBlock] at hb
      subst hb
      exact ⟨o, s, rfl⟩)

/-- A slice that owns the parts ms and their atoms. -/
def OM (TM TI : TypeId) (w : World) (lo : Nat) (A : Option Addr) (k : Nat) (ms : List Mn) : Prop :=
  w.ownsRow lo TM 2 (.slice A ms.length k) ms.length (ms.flatMap Mn.cells) ∧ (∀ m ∈ ms, OI TI w lo m.A m.k m.xs) ∧ ms.Pairwise fun a b => ∀ x, atB a.A x → ¬ atB b.A x
theorem OM.set {TM TI : TypeId} {w : World} {lo k : Nat} {A : Option Addr} {ms : List Mn} (h : OM TM TI w lo A k ms) {p : Addr} (hp : p.block < lo) (v : Value) : OM TM TI (w.setCell p v) lo A k ms :=
  ⟨ownsRow_setCell_below h.1 hp v, fun m hm => (h.2.1 m hm).set hp v, h.2.2⟩
def foot (A : Option Addr) (ms : List Mn) (b : Nat) : Prop := atB A b ∨ ∃ m ∈ ms, atB m.A b
section
variable {TM TI : TypeId} {w a : World} {lo k : Nat} {A : Option Addr} {ms : List Mn}
theorem OM.rm (h : OM TM TI w lo A k ms) : RM TM TI w A ms := ⟨Row.of_own h.1, fun m hm => (h.2.1 m hm).ri⟩
theorem OM.ext (h : OM TM TI w lo A k ms) (he : Ext w a) : OM TM TI a lo A k ms := ⟨own_ext h.1 he, fun m hm => (h.2.1 m hm).ext he, h.2.2⟩
theorem OM.base {lo' : Nat} (h : OM TM TI w lo A k ms) (hl : lo' ≤ lo) : OM TM TI w lo' A k ms := ⟨own_base h.1 hl, fun m hm => (h.2.1 m hm).base hl, h.2.2⟩
theorem OM.foot_ (h : OM TM TI w lo A k ms) {b : Nat} (hb : foot A ms b) : lo ≤ b ∧ b < w.heap.size := by
  rcases hb with hb | ⟨m, hm, hb⟩
  · exact own_atB h.1 hb
  · exact own_atB (h.2.1 m hm) hb
theorem OM.upd {S : Nat → Prop} (h : OM TM TI w lo A k ms) (he : Upd S w a) (hs : ∀ b, foot A ms b → ¬ S b) : OM TM TI a lo A k ms :=
  ⟨own_upd' h.1 he fun b hb => hs b (.inl hb), fun m hm => own_upd' (h.2.1 m hm) he fun b hb => hs b (.inr ⟨m, hm, hb⟩), h.2.2⟩
end
theorem le_sum_mem : ∀ {l : List Nat} {n : Nat}, n ∈ l → n ≤ l.sum
  | a :: l, n, h => by
    rcases List.mem_cons.1 h with rfl | h
    · simp
    · have := le_sum_mem h; simp; omega
/-- The cells of ms stand at the head of a row. -/
def Head (f : Nat → Value) (ms : List Mn) : Prop := ∀ t u, (ms.flatMap Mn.cells)[t]? = some u → f t = u
theorem Head.snoc {f : Nat → Value} {ms : List Mn} {m : Mn} (h : Head f ms) : Head (fun j => if j = ms.length * 2 + 1 then .slice m.A m.xs.length m.k else if j = ms.length * 2 then .int .i64 m.c else f j) (ms ++ [m]) := by
  intro t u hu
  have hl : (ms.flatMap Mn.cells).length = ms.length * 2 := flat_length (f := Mn.cells) (s := 2) (fun _ => rfl) ms
  rw [List.flatMap_append] at hu
  rcases Nat.lt_or_ge t (ms.length * 2) with ht | ht
  · rw [List.getElem?_append_left (by omega)] at hu
    show (if t = ms.length * 2 + 1 then _ else if t = ms.length * 2 then _ else f t) = u
    rw [if_neg (by omega), if_neg (by omega)]
    exact h t u hu
  · rw [List.getElem?_append_right (by omega), hl] at hu
    have e : [m].flatMap Mn.cells = [.int .i64 m.c, .slice m.A m.xs.length m.k] := rfl
    rw [e] at hu
    show (if t = ms.length * 2 + 1 then _ else if t = ms.length * 2 then _ else f t) = u
    rcases (show t = ms.length * 2 ∨ t = ms.length * 2 + 1 ∨ ms.length * 2 + 2 ≤ t by omega) with rfl | rfl | h2
    · rw [Nat.sub_self] at hu
      rw [if_neg (by omega), if_pos rfl]
      simpa using hu
    · rw [show ms.length * 2 + 1 - ms.length * 2 = 1 from by omega] at hu
      rw [if_pos rfl]
      simpa using hu
    · rw [List.getElem?_eq_none (by simp; omega)] at hu
      cases hu
theorem own_of_head {w : World} {g T lo : Nat} {f : Nat → Value} {ms : List Mn} (h : w.rowIs g T (ms.length * 2) f) (hf : Head f ms) (hl : lo ≤ g) (hm : ms.length ≤ maxLen) :
    w.ownsRow lo T 2 (.slice (some ⟨g, 0, none⟩) ms.length ms.length) ms.length (ms.flatMap Mn.cells) := by
  have hlen : (ms.flatMap Mn.cells).length = ms.length * 2 := flat_length (f := Mn.cells) (s := 2) (fun _ => rfl) ms
  obtain ⟨c, hg, hc, hcf⟩ := h
  refine ⟨hlen, .inr ⟨g, ms.length, c, rfl, hl, hg, Nat.le_refl _, hm, hc, ?_⟩⟩
  apply List.ext_getElem?
  intro i
  rw [List.getElem?_take]
  by_cases hi : i < ms.length * 2
  · rw [if_pos hi, Array.getElem?_toList, hcf i hi, List.getElem?_eq_getElem (by omega)]
    rw [hf i _ (List.getElem?_eq_getElem (by omega))]
  · rw [if_neg hi, List.getElem?_eq_none (by omega)]

/-- A row g of n parts that is being filled: the first ones are ms', new memory from lo on. -/
def Blt (TM TI : TypeId) (w : World) (lo g n : Nat) (d : List (Int × List Int)) (ms' : List Mn) : Prop :=
  ms'.map Mn.dat = d.take ms'.length ∧ ms'.length ≤ n ∧ lo ≤ g ∧ (∃ f, w.rowIs g TM (n * 2) f ∧ Head f ms') ∧ (∀ m ∈ ms', OI TI w lo m.A m.k m.xs) ∧ ms'.Pairwise fun a b => ∀ x, atB a.A x → ¬ atB b.A x
section
variable {TM TI : TypeId} {w w1 : World} {lo g n : Nat} {d : List (Int × List Int)} {ms' : List Mn}
theorem Blt.start {z : Array Value} (hl : lo ≤ w.heap.size) : Blt TM TI (w.alloc (.cells (madeCells z (n * 2)) TM)) lo w.heap.size n d [] :=
  ⟨rfl, Nat.zero_le _, hl, ⟨_, row_made w z (n * 2) TM, fun t u hu => by simp at hu⟩, fun m hm => (by cases hm), List.Pairwise.nil⟩
theorem Blt.lt (h : Blt TM TI w lo g n d ms') : g < w.heap.size := let ⟨_, _, _, ⟨_, h, _⟩, _⟩ := h; h.lt
theorem Blt.cell (h : Blt TM TI w lo g n d ms') {i : Nat} (hi : i < n * 2) : ∃ v, w.cell? ⟨g, i, none⟩ = some v := let ⟨_, _, _, ⟨_, h, _⟩, _⟩ := h; ⟨_, h.cell hi⟩
theorem Blt.frozen (h : Blt TM TI w lo g n d ms') (i : Nat) : w.frozen? ⟨g, i, none⟩ = false := let ⟨_, _, _, ⟨_, h, _⟩, _⟩ := h; h.frozen i
theorem Blt.ext (h : Blt TM TI w lo g n d ms') (he : Ext w w1) : Blt TM TI w1 lo g n d ms' :=
  let ⟨h1, h2, h3, ⟨f, h4, h5⟩, h6, h7⟩ := h
  ⟨h1, h2, h3, ⟨f, row_ext h4 he, h5⟩, fun m hm => (h6 m hm).ext he, h7⟩
theorem Blt.step (hT : TM ≠ TI) (h : Blt TM TI w lo g n d ms') (he : Ext w w1) {m : Mn} (hd : d[ms'.length]? = some m.dat) (hn : ms'.length < n) (ho : OI TI w1 w.heap.size m.A m.k m.xs) :
    Blt TM TI ((w1.setCell ⟨g, ms'.length * 2, none⟩ (.int .i64 m.c)).setCell ⟨g, ms'.length * 2 + 1, none⟩ (.slice m.A m.xs.length m.k)) lo g n d (ms' ++ [m]) := by
  have hg := h.lt
  obtain ⟨h1, h2, h3, ⟨f, h4, h5⟩, h6, h7⟩ := h
  have hup : Upd (fun b => b = g) w1 ((w1.setCell ⟨g, ms'.length * 2, none⟩ (.int .i64 m.c)).setCell ⟨g, ms'.length * 2 + 1, none⟩ (.slice m.A m.xs.length m.k)) :=
    Upd.set (S := fun b => b = g) (Upd.set (S := fun b => b = g) (Upd.refl _ _) (p := ⟨g, ms'.length * 2, none⟩) (.inl rfl) _) (p := ⟨g, ms'.length * 2 + 1, none⟩) (.inl rfl) _
  have hgt : ∀ a ∈ ms', ∀ x, atB a.A x → x < w.heap.size := fun a ha x hx => (own_atB (h6 a ha) hx).2
  have hdiff : ∀ a ∈ ms', ∀ x, atB a.A x → x ≠ g := by
    rintro a ha x ⟨o, s, hx⟩ e
    subst e
    rcases (h6 a ha).2 with ⟨e, _⟩ | ⟨g', cap, cur, e, _, hh, _⟩
    · rw [hx] at e; injection e with e; cases e
    · rw [hx] at e
      injection e with e
      injection e with e
      injection e with e _ _
      subst e
      obtain ⟨c, hc, _, _⟩ := h4
      rw [hh] at hc
      injection hc with hc
      injection hc with _ e2 _
      exact hT e2.symm
  have hle : ∀ x, atB m.A x → w.heap.size ≤ x := fun x hx => (own_atB ho hx).1
  refine ⟨?_, by simp; omega, h3, ⟨_, ((row_ext h4 he).set _ _).set _ _, h5.snoc⟩, fun a ha => ?_, ?_⟩
  · rw [List.map_append, h1, List.length_append]
    show d.take ms'.length ++ [m.dat] = d.take (ms'.length + 1)
    rw [List.take_add_one, hd]
    rfl
  · rcases List.mem_append.1 ha with ha | ha
    · exact own_upd' ((h6 a ha).ext he) hup fun b hb e => hdiff a ha b hb e
    · obtain rfl := List.mem_singleton.1 ha
      exact own_base (own_upd' ho hup fun b hb e => by have := hle b hb; omega) (by omega)
  · rw [List.pairwise_append]
    refine ⟨h7, List.pairwise_singleton _ _, fun a ha b hb x hx hx' => ?_⟩
    obtain rfl := List.mem_singleton.1 hb
    have := hgt a ha x hx
    have := hle x hx'
    omega
theorem Blt.done (h : Blt TM TI w lo g n d ms') (hn : ms'.length = n) (hd : d.length = n) (hm : n ≤ maxLen) : ms'.map Mn.dat = d ∧ OM TM TI w lo (some ⟨g, 0, none⟩) n ms' := by
  obtain ⟨h1, h2, h3, ⟨f, h4, h5⟩, h6, h7⟩ := h
  subst hn
  refine ⟨by rw [h1, List.take_of_length_le (by omega)], own_of_head h4 h5 h3 hm, h6, h7⟩
end

/-- All lengths together. -/
def totM (ms : List Mn) : Nat := ms.length + (ms.map fun m => m.xs.length).sum
theorem totM_nil : totM [] = 0 := rfl
/-- No length is beyond what a slice may have. -/
def SzA (ms : List Mn) : Prop := ms.length ≤ 9223372036854775807 ∧ ∀ m ∈ ms, m.xs.length ≤ 9223372036854775807
theorem SzA.at_ {ms : List Mn} (h : SzA ms) {i : Nat} {m : Mn} (hm : ms[i]? = some m) : m.xs.length ≤ 9223372036854775807 := h.2 m (List.mem_of_getElem? hm)
theorem tot_one {ms : List Mn} {n : Nat} (h : totM ms ≤ n) : ms.length ≤ n ∧ ∀ m ∈ ms, m.xs.length ≤ n := by
  refine ⟨by unfold totM at h; omega, fun m hm => ?_⟩
  have : m.xs.length ≤ (ms.map fun m => m.xs.length).sum := le_sum_mem (List.mem_map.2 ⟨m, hm, rfl⟩)
  unfold totM at h
  omega
theorem SzM.of_tot {ms : List Mn} (h : totM ms < 4611686018427387904) : SzM ms := by
  refine ⟨by unfold totM at h; omega, fun m hm => ?_⟩
  have : m.xs.length ≤ (ms.map fun m => m.xs.length).sum := le_sum_mem (List.mem_map.2 ⟨m, hm, rfl⟩)
  unfold totM at h
  omega
theorem tot_dat : ∀ {ms ms' : List Mn}, ms'.map Mn.dat = ms.map Mn.dat → totM ms' = totM ms
  | [], [], _ => rfl
  | [], _ :: _, h => by cases h
  | _ :: _, [], h => by cases h
  | a :: l, b :: l', h => by
    injection h with h1 h2
    have := tot_dat h2
    injection h1 with _ h1
    unfold totM at *
    simp only [List.length_cons, List.map_cons, List.sum_cons, h1]
    omega
theorem SzM.of_dat {ms ms' : List Mn} (hd : ms'.map Mn.dat = ms.map Mn.dat) (h : totM ms ≤ 1048576) : SzM ms' := SzM.of_tot (by rw [tot_dat hd]; omega)
/-- Bytes that came in. -/
def AB (w : World) (A : Option Addr) (bs : List Int) : Prop := AR w A (bs.map (Value.int .u8)) ∧ ∀ x ∈ bs, 0 ≤ x ∧ x < 256
theorem AB.ext {w w' : World} {A : Option Addr} {bs : List Int} (h : AB w A bs) (he : Ext w w') : AB w' A bs := ⟨h.1.ext he, h.2⟩
theorem AB.at_ {w : World} {A : Option Addr} {bs : List Int} (h : AB w A bs) {i : Nat} (hi : i < bs.length) : ∃ b o x, A = some ⟨b, o, none⟩ ∧ b < w.heap.size ∧ (0 ≤ x ∧ x < 256) ∧ w.cell? ⟨b, o + i, none⟩ = some (.int .u8 x) := by
  obtain ⟨b, o, h1, h2, h3⟩ := AR.at_ h.1 (j := i) (u := .int .u8 bs[i]) (by simp [List.getElem?_eq_getElem hi])
  exact ⟨b, o, bs[i], h1, h2, h.2 _ (List.getElem_mem hi), h3⟩
end Go.Proofs.Ytcjeeggffeoilaa
