/- The program's table of kinds, made in whatever order: what holds on the way. Conditions: none. -/
import Derived.Test.YtcjeeggffeoilaaRI
import Derived.Test.YtcjeeggffeoilaaBK
import Derived.Maps.Own
import Derived.Maps.OwnSet
import Derived.Maps.Views
namespace Go.Proofs.Ytcjeeggffeoilaa
open Go Go.RowKit Go.ChangeMaps Go.Maps
set_option linter.unusedVariables false
set_option linter.unusedSimpArgs false

/-- The n-th of what stands in a row. -/
def codeAt : Nat → Code → Code
  | 0, .seq a _ => a
  | n + 1, .seq _ b => codeAt n b
  | _, c => c

/-- The slots that are written, by operation: with what. -/
def ktab (blk g : Nat) (kd k : Int) (r : Bool) : List (Nat × Nat × Value) := [(0, 27, .map (some g)), (1, 28, .pointer (some ⟨blk, 3, none⟩)), (2, 29, .int .i64 k), (3, 30, .bool (wrdOk k)), (5, 31, .pointer (some ⟨blk, 3, none⟩)), (6, 32, .int .i64 k), (7, 33, .bool (inB k 0 3)), (9, 34, .pointer (some ⟨blk, 3, none⟩)), (10, 35, .int .i64 k), (11, 36, .bool (inB k 1 5)), (13, 37, .pointer (some ⟨blk, 3, none⟩)), (14, 38, .int .i64 k), (15, 39, .bool (inB k 0 3)), (17, 40, .map (some g)), (18, 41, .pointer (some ⟨blk, 0, none⟩)), (19, 42, .int .i64 kd), (20, 43, .bool r), (21, 10, .bool r)]
def kslots : List Nat := [27, 28, 29, 30, 31, 32, 33, 34, 35, 36, 37, 38, 39, 40, 41, 42, 43, 10]
def kops : List Nat := [0, 1, 2, 3, 5, 6, 7, 9, 10, 11, 13, 14, 15, 17, 18, 19, 20, 21]
theorem ktab_slots (blk g : Nat) (kd k : Int) (r : Bool) : (ktab blk g kd k r).map (fun p => p.2.1) = kslots := rfl
theorem ktab_ops (blk g : Nat) (kd k : Int) (r : Bool) : (ktab blk g kd k r).map (fun p => p.1) = kops := rfl
/-- What the table says of a kind so far. -/
def mv (L : Array Bool) (k q : Int) : Bool := if q = 1 then L.getD 4 false && wrdOk k else if q = 2 then L.getD 8 false && inB k 0 3 else if q = 3 then L.getD 12 false && inB k 1 5 else if q = 8 then L.getD 16 false && inB k 0 3 else false
def b2n (b : Bool) : Nat := if b then 1 else 0
def nOf (L : Array Bool) : Nat := b2n (L.getD 4 false) + b2n (L.getD 8 false) + b2n (L.getD 12 false) + b2n (L.getD 16 false)
abbrev zf : DataW Unit := .lit (.bool false)
abbrev OwnK (w : World) (g n : Nat) (D : DataW Unit) : Prop := w.ownsMap Try.prog 3 (plainElem Try.prog 4) g n D
structure KI (blk g : Nat) (kd k : Int) (r : Bool) (a0 : Act) (W0 : World) (L : Array Bool) (a : Act) (w : World) : Prop where
  tb : ∀ p ∈ ktab blk g kd k r, L.getD p.1 false = true → a.tmps[p.2.1]? = some p.2.2
  sz : a.tmps.size = 115
  df : a.defers = a0.defers
  old : ∀ j, j ∉ kslots → a.tmps[j]? = a0.tmps[j]?
  cl : L.getD 17 false = true → L.getD 4 false = true ∧ L.getD 8 false = true ∧ L.getD 12 false = true ∧ L.getD 16 false = true
  c0 : w.cell? ⟨blk, 0, none⟩ = some (.int .i64 kd)
  c3 : w.cell? ⟨blk, 3, none⟩ = some (.int .i64 k)
  ex : Ext W0 w
  gl : W0.heap.size ≤ g
  pre : L.getD 0 false = false → w.heap.size = g ∧ L.getD 4 false = false ∧ L.getD 8 false = false ∧ L.getD 12 false = false ∧ L.getD 16 false = false
  mp : L.getD 0 false = true → ∃ D, OwnK w g (nOf L) D ∧ IsMap D ∧ ∀ q : Int, D.atKey (.int .i64 q) zf = .lit (.bool (mv L k q))

theorem nodup_inj {α β : Type} {f : α → β} : ∀ {l : List α}, (l.map f).Nodup → ∀ {x y : α}, x ∈ l → y ∈ l → f x = f y → x = y
  | [], _, x, y, hx, _, _ => by cases hx
  | a :: l, h, x, y, hx, hy, e => by
    rw [List.map_cons, List.nodup_cons] at h
    by_cases h1 : x = a
    · by_cases h2 : y = a
      · rw [h1, h2]
      · have hy' : y ∈ l := (List.mem_cons.1 hy).resolve_left h2
        exact absurd (List.mem_map.2 ⟨y, hy', by rw [← e, h1]⟩) h.1
    · have hx' : x ∈ l := (List.mem_cons.1 hx).resolve_left h1
      by_cases h2 : y = a
      · exact absurd (List.mem_map.2 ⟨x, hx', by rw [e, h2]⟩) h.1
      · exact nodup_inj h.2 hx' ((List.mem_cons.1 hy).resolve_left h2) e

section
variable {blk g : Nat} {kd k : Int} {r : Bool} {a0 : Act} {W0 : World} {L : Array Bool} {a : Act} {w : World}
theorem KI.tb_put (h : KI blk g kd k r a0 W0 L a w) (hL : L.size = 22) {i s : Nat} {v : Value} (hm : (i, s, v) ∈ ktab blk g kd k r) :
    (∀ p ∈ ktab blk g kd k r, (L.setIfInBounds i true).getD p.1 false = true → (a.put (some s) v).tmps[p.2.1]? = some p.2.2) ∧ (a.put (some s) v).tmps.size = 115 ∧ (a.put (some s) v).defers = a0.defers ∧ (∀ j, j ∉ kslots → (a.put (some s) v).tmps[j]? = a0.tmps[j]?) := by
  have hs : s ∈ kslots := by rw [← ktab_slots blk g kd k r]; exact List.mem_map.2 ⟨_, hm, rfl⟩
  have hs115 : s < 115 := by
    have : ∀ x ∈ kslots, x < 115 := by decide
    exact this s hs
  have hsz := h.sz
  refine ⟨fun p hp hl => ?_, by simp [Act.put, hsz], h.df, fun j hj => ?_⟩
  · by_cases hi : p.1 = i
    · have e := nodup_inj (f := fun p : Nat × Nat × Value => p.1) (by rw [ktab_ops]; decide) hp hm hi
      subst e
      show (a.tmps.setIfInBounds _ _)[_]? = _
      rw [Array.getElem?_setIfInBounds_self, if_pos (by omega)]
    · have hne : s ≠ p.2.1 := fun e => hi (by
        have e := nodup_inj (f := fun p : Nat × Nat × Value => p.2.1) (by rw [ktab_slots]; decide) hp hm e.symm
        rw [e])
      show (a.tmps.setIfInBounds _ _)[_]? = _
      rw [Array.getElem?_setIfInBounds_ne hne]
      rw [getD_set_ne (Ne.symm hi)] at hl
      exact h.tb p hp hl
  · show (a.tmps.setIfInBounds _ _)[_]? = _
    rw [Array.getElem?_setIfInBounds_ne (fun e => hj (by rw [← e]; exact hs))]
    exact h.old j hj
theorem mv_set {i : Nat} (h4 : i ≠ 4) (h8 : i ≠ 8) (h12 : i ≠ 12) (h16 : i ≠ 16) (q : Int) : mv (L.setIfInBounds i true) k q = mv L k q := by
  unfold mv
  rw [getD_set_ne h4, getD_set_ne h8, getD_set_ne h12, getD_set_ne h16]
theorem nOf_set {i : Nat} (h4 : i ≠ 4) (h8 : i ≠ 8) (h12 : i ≠ 12) (h16 : i ≠ 16) : nOf (L.setIfInBounds i true) = nOf L := by
  unfold nOf
  rw [getD_set_ne h4, getD_set_ne h8, getD_set_ne h12, getD_set_ne h16]
/-- An operation that yields its value and leaves the world. -/
theorem KI.put (h : KI blk g kd k r a0 W0 L a w) (hL : L.size = 22) {i s : Nat} {v : Value} (hm : (i, s, v) ∈ ktab blk g kd k r) (h0 : i ≠ 0) (h17 : i = 17 → L.getD 4 false = true ∧ L.getD 8 false = true ∧ L.getD 12 false = true ∧ L.getD 16 false = true) :
    KI blk g kd k r a0 W0 (L.setIfInBounds i true) (a.put (some s) v) w := by
  have hi : i ∈ kops := by rw [← ktab_ops blk g kd k r]; exact List.mem_map.2 ⟨_, hm, rfl⟩
  have h4 : i ≠ 4 := by rintro rfl; revert hi; decide
  have h8 : i ≠ 8 := by rintro rfl; revert hi; decide
  have h12 : i ≠ 12 := by rintro rfl; revert hi; decide
  have h16 : i ≠ 16 := by rintro rfl; revert hi; decide
  obtain ⟨t1, t2, t3, t4⟩ := h.tb_put hL hm
  refine ⟨t1, t2, t3, t4, ?_, h.c0, h.c3, h.ex, h.gl, ?_, ?_⟩
  · rw [getD_set_ne h4, getD_set_ne h8, getD_set_ne h12, getD_set_ne h16]
    intro hl
    by_cases e : i = 17
    · exact h17 e
    · rw [getD_set_ne e] at hl
      exact h.cl hl
  · rw [getD_set_ne h0, getD_set_ne h4, getD_set_ne h8, getD_set_ne h12, getD_set_ne h16]
    exact h.pre
  · rw [getD_set_ne h0, nOf_set h4 h8 h12 h16]
    intro hl
    obtain ⟨D, h1, h2, h3⟩ := h.mp hl
    exact ⟨D, h1, h2, fun q => by rw [mv_set h4 h8 h12 h16]; exact h3 q⟩
/-- The table is made. -/
theorem KI.make (h : KI blk g kd k r a0 W0 L a w) (hL : L.size = 22) (hl : L.getD 0 false = false) (hb : blk < W0.heap.size) : KI blk g kd k r a0 W0 (L.setIfInBounds 0 true) (a.put (some 27) (.map (some w.heap.size))) (w.alloc (.map #[] 0)) := by
  obtain ⟨hg, l4, l8, l12, l16⟩ := h.pre hl
  have hbw : blk < w.heap.size := lt_ext h.ex hb
  rw [hg]
  obtain ⟨t1, t2, t3, t4⟩ := h.tb_put hL (i := 0) (s := 27) (v := .map (some g)) (by simp [ktab])
  refine ⟨t1, t2, t3, t4, ?_, keep ((Ext.refl w).alloc _) h.c0, keep ((Ext.refl w).alloc _) h.c3, h.ex.alloc _, h.gl, ?_, ?_⟩
  · rw [getD_set_ne (by decide), getD_set_ne (by decide), getD_set_ne (by decide), getD_set_ne (by decide), getD_set_ne (by decide)]
    exact h.cl
  · rw [getD_set_same (by omega)]
    intro e
    cases e
  · intro _
    refine ⟨.map [], ?_, ⟨[], rfl⟩, fun q => ?_⟩
    · have := World.ownsMap_made (H := Unit) w Try.prog 3 (plainElem Try.prog 4)
      rw [hg] at this
      exact this.mono (Nat.zero_le _)
    · rw [mv_set (by decide) (by decide) (by decide) (by decide)]
      unfold mv
      rw [l4, l8, l12, l16]
      simp [DataW.atKey]
theorem mv_put {i : Nat} {q : Int} {b : Bool} (hiq : (i, q, b) ∈ [(4, (1 : Int), wrdOk k), (8, 2, inB k 0 3), (12, 3, inB k 1 5), (16, 8, inB k 0 3)]) (hL : L.size = 22) (x : Int) : mv (L.setIfInBounds i true) k x = if x = q then b else mv L k x := by
  simp only [List.mem_cons, Prod.mk.injEq, List.not_mem_nil, or_false] at hiq
  unfold mv
  rcases hiq with ⟨rfl, rfl, rfl⟩ | ⟨rfl, rfl, rfl⟩ | ⟨rfl, rfl, rfl⟩ | ⟨rfl, rfl, rfl⟩
  · rw [getD_set_same (by omega), getD_set_ne (by decide), getD_set_ne (by decide), getD_set_ne (by decide)]
    by_cases h1 : x = 1 <;> simp [h1]
  · rw [getD_set_same (by omega), getD_set_ne (by decide), getD_set_ne (by decide), getD_set_ne (by decide)]
    by_cases h1 : x = 1
    · subst h1; simp
    · by_cases h2 : x = 2 <;> simp [h1, h2]
  · rw [getD_set_same (by omega), getD_set_ne (by decide), getD_set_ne (by decide), getD_set_ne (by decide)]
    by_cases h1 : x = 1
    · subst h1; simp
    · by_cases h2 : x = 2
      · subst h2; simp
      · by_cases h3 : x = 3 <;> simp [h1, h2, h3]
  · rw [getD_set_same (by omega), getD_set_ne (by decide), getD_set_ne (by decide), getD_set_ne (by decide)]
    by_cases h1 : x = 1
    · subst h1; simp
    · by_cases h2 : x = 2
      · subst h2; simp
      · by_cases h3 : x = 3
        · subst h3; simp
        · by_cases h8 : x = 8 <;> simp [h1, h2, h3, h8]
theorem nOf_put {i : Nat} (hi : i = 4 ∨ i = 8 ∨ i = 12 ∨ i = 16) (hl : L.getD i false = false) (hL : L.size = 22) : nOf (L.setIfInBounds i true) = nOf L + 1 := by
  unfold nOf
  rcases hi with rfl | rfl | rfl | rfl <;> rw [getD_set_same (by omega), getD_set_ne (by decide), getD_set_ne (by decide), getD_set_ne (by decide), hl] <;> simp [b2n] <;> omega
theorem nOf_le : nOf L ≤ 4 := by
  unfold nOf b2n
  split <;> split <;> split <;> split <;> omega
/-- A kind is laid into the table. -/
theorem KI.ins (h : KI blk g kd k r a0 W0 L a w) (hL : L.size = 22) {i : Nat} {q : Int} {b : Bool} (hiq : (i, q, b) ∈ [(4, (1 : Int), wrdOk k), (8, 2, inB k 0 3), (12, 3, inB k 1 5), (16, 8, inB k 0 3)]) (hl : L.getD i false = false) (h0 : L.getD 0 false = true) (hb : blk < W0.heap.size) :
    ∃ w', (Instr.mapUpdate 68 (.map (some g)) (.int .i64 q) (.bool b)).run Try.prog w = .ok () w' ∧ KI blk g kd k r a0 W0 (L.setIfInBounds i true) a w' := by
  obtain ⟨D, hown, hmap, hat⟩ := h.mp h0
  have hi : (i = 4 ∨ i = 8 ∨ i = 12 ∨ i = 16) ∧ (q = 1 ∨ q = 2 ∨ q = 3 ∨ q = 8) := by
    simp only [List.mem_cons, Prod.mk.injEq, List.not_mem_nil, or_false] at hiq
    rcases hiq with ⟨rfl, rfl, _⟩ | ⟨rfl, rfl, _⟩ | ⟨rfl, rfl, _⟩ | ⟨rfl, rfl, _⟩ <;> simp
  have hne : i ≠ 0 ∧ i ≠ 17 ∧ i ∉ kops := by rcases hi.1 with rfl | rfl | rfl | rfl <;> decide
  have hwf : (Lit.int .i64 q).wf = true := by rcases hi.2 with rfl | rfl | rfl | rfl <;> decide
  obtain ⟨w', hrun, hown', hg⟩ := hown.update (int_keyed Try.underlying3) Try.underlying68 (by have := nOf_le (L := L); unfold maxLen; omega) (keyOf_int_mk Try.underlying3 hwf) (plainElem_bool Try.underlying4 b)
  have hu : Upd (fun x => x = g) w w' := (Upd.refl _ _).grown hg (fun x e => .inl (by injection e with e; exact e.symm))
  have hbw : blk < w.heap.size := lt_ext h.ex hb
  have hbg : blk ≠ g := by have := h.gl; omega
  refine ⟨w', hrun, fun p hp hl' => ?_, h.sz, h.df, h.old, fun h17 => ?_, (hu.cell (p := ⟨blk, 0, none⟩) hbw hbg).trans h.c0, (hu.cell (p := ⟨blk, 3, none⟩) hbw hbg).trans h.c3, h.ex.grown hg (fun x e => by injection e with e; rw [← e]; exact h.gl), h.gl, fun hl0 => ?_, fun _ => ?_⟩
  · have hpi : i ≠ p.1 := by
      rintro rfl
      exact hne.2.2 (by rw [← ktab_ops blk g kd k r]; exact List.mem_map.2 ⟨p, hp, rfl⟩)
    rw [getD_set_ne hpi] at hl'
    exact h.tb p hp hl'
  · rw [getD_set_ne hne.2.1] at h17
    have hc := h.cl h17
    rcases hi.1 with rfl | rfl | rfl | rfl
    · rw [hc.1] at hl; cases hl
    · rw [hc.2.1] at hl; cases hl
    · rw [hc.2.2.1] at hl; cases hl
    · rw [hc.2.2.2] at hl; cases hl
  · rw [getD_set_ne hne.1, h0] at hl0
    cases hl0
  · refine ⟨_, by rw [nOf_put hi.1 hl hL]; exact hown', hmap.put _ _, fun x => ?_⟩
    rw [mv_put hiq hL]
    by_cases hx : x = q
    · rw [if_pos hx, hx]
      exact atKey_put_same (k := Lit.int .i64 q) hmap (by simp [WideAt.IsKeyLit]) _ _
    · rw [if_neg hx, atKey_put_other (fun e => hx (by injection e))]
      exact hat x
/-- What the table tells of a kind. -/
theorem KI.look (h : KI blk g kd k r a0 W0 L a w) (h0 : L.getD 0 false = true) (h17 : L.getD 17 false = true) (hk : 1 ≤ kd ∧ kd ≤ 8) (hz : (zeroValue 4).run Try.prog w = .ok (.bool false) w) :
    (Instr.lookup 68 (.map (some g)) (.int .i64 kd) false).run Try.prog w = .ok (.bool (if kd = 1 then wrdOk k else if kd = 2 then inB k 0 3 else if kd = 3 then inB k 1 5 else if kd = 8 then inB k 0 3 else false)) w := by
  obtain ⟨D, hown, hmap, hat⟩ := h.mp h0
  obtain ⟨l4, l8, l12, l16⟩ := h.cl h17
  have hwf : (Lit.int .i64 kd).wf = true := by
    simp [Lit.wf]
    have h1 : IntKind.i64.min = -9223372036854775808 := by decide
    have h2 : IntKind.i64.max = 9223372036854775807 := by decide
    omega
  obtain ⟨v, ps, hrun, hv⟩ := hown.lookup (int_keyed Try.underlying3) Try.underlying68 hz (plainElem_bool Try.underlying4 false) (keyOf_int_mk Try.underlying3 hwf)
  have e := hat kd
  unfold mv at e
  rw [l4, l8, l12, l16] at e
  simp only [Bool.true_and] at e
  rw [e] at hv
  have hv' : v = .bool (if kd = 1 then wrdOk k else if kd = 2 then inB k 0 3 else if kd = 3 then inB k 1 5 else if kd = 8 then inB k 0 3 else false) := by
    unfold plainElem at hv
    rw [Try.underlying4] at hv
    cases v <;> simp only [Option.some.injEq, Prod.mk.injEq, DataW.lit.injEq, Lit.bool.injEq, reduceCtorEq] at hv
    rw [hv.1]
  rw [← hv']
  exact hrun
end
end Go.Proofs.Ytcjeeggffeoilaa
