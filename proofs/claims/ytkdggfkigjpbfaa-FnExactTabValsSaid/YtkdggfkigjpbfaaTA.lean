/- Tables of atoms as data: how they read, and memory that a call owns. No function in sight. Conditions: none. -/
import Derived.Test.YtkdggfkigjpbfaaF
import Derived.Test.YtkdggfkigjpbfaaE
import Derived.Test.YtkdggfkigjpbfaaH
namespace Go.Proofs.Ytkdggfkigjpbfaa
open Go Go.RowKit Go.WideShapes Go.Deep Go.ChangeShapes
set_option linter.unusedVariables false
set_option linter.unusedSimpArgs false

/-- An atom as it lies in memory. -/
structure Tn where
  kind : Int
  n : Int
  A1 : Option Addr
  k1 : Nat
  xs : List Mn
  A2 : Option Addr
  k2 : Nat
  ys : List Mn
def Tn.cells (t : Tn) : List Value := [.int .i64 t.kind, .int .i64 t.n, .slice t.A1 t.xs.length t.k1, .slice t.A2 t.ys.length t.k2]
def Tn.dat (t : Tn) : Int × Int × List (Int × List Int) × List (Int × List Int) := (t.kind, t.n, t.xs.map Mn.dat, t.ys.map Mn.dat)
def AT (w : World) (A : Option Addr) (ts : List Tn) : Prop := AR w A (ts.flatMap Tn.cells) ∧ ∀ t ∈ ts, AM w t.A1 t.xs ∧ AM w t.A2 t.ys
/-- No length is beyond what a slice may have. -/
def SzAT (ts : List Tn) : Prop := ts.length ≤ 9223372036854775807 ∧ ∀ t ∈ ts, SzA t.xs ∧ SzA t.ys
def SzT (ts : List Tn) : Prop := ts.length < 4611686018427387904 ∧ ∀ t ∈ ts, SzM t.xs ∧ SzM t.ys
theorem SzAT.at_ {ts : List Tn} (h : SzAT ts) {i : Nat} {t : Tn} (ht : ts[i]? = some t) : SzA t.xs ∧ SzA t.ys := h.2 t (List.mem_of_getElem? ht)
theorem SzT.at_ {ts : List Tn} (h : SzT ts) {i : Nat} {t : Tn} (ht : ts[i]? = some t) : SzM t.xs ∧ SzM t.ys := h.2 t (List.mem_of_getElem? ht)
theorem Tn.len (a : Tn) : a.cells.length = 4 := rfl
theorem AT.ext {w w' : World} {A : Option Addr} {ts : List Tn} (h : AT w A ts) (he : Ext w w') : AT w' A ts := ⟨h.1.ext he, fun t ht => ⟨(h.2 t ht).1.ext he, (h.2 t ht).2.ext he⟩⟩
theorem AT.at_ {w : World} {A : Option Addr} {ts : List Tn} (h : AT w A ts) {i : Nat} (hi : i < ts.length) : ∃ b o t, A = some ⟨b, o, none⟩ ∧ b < w.heap.size ∧ ts[i]? = some t ∧
    w.cell? ⟨b, o + i * 4, none⟩ = some (.int .i64 t.kind) ∧ w.cell? ⟨b, o + i * 4 + 1, none⟩ = some (.int .i64 t.n) ∧ w.cell? ⟨b, o + i * 4 + 2, none⟩ = some (.slice t.A1 t.xs.length t.k1) ∧ w.cell? ⟨b, o + i * 4 + 3, none⟩ = some (.slice t.A2 t.ys.length t.k2) ∧ AM w t.A1 t.xs ∧ AM w t.A2 t.ys := by
  have hm : ts[i]? = some ts[i] := List.getElem?_eq_getElem hi
  obtain ⟨b, o, h1, h2, h3⟩ := AR.at_ h.1 (j := i * 4 + 0) (u := .int .i64 ts[i].kind) (by rw [flat_at Tn.len _ _ _ (by omega), hm]; rfl)
  obtain ⟨b', o', e1, _, g1⟩ := AR.at_ h.1 (j := i * 4 + 1) (u := .int .i64 ts[i].n) (by rw [flat_at Tn.len _ _ _ (by omega), hm]; rfl)
  obtain ⟨b'', o'', e2, _, g2⟩ := AR.at_ h.1 (j := i * 4 + 2) (u := .slice ts[i].A1 ts[i].xs.length ts[i].k1) (by rw [flat_at Tn.len _ _ _ (by omega), hm]; rfl)
  obtain ⟨b3, o3, e3, _, g3⟩ := AR.at_ h.1 (j := i * 4 + 3) (u := .slice ts[i].A2 ts[i].ys.length ts[i].k2) (by rw [flat_at Tn.len _ _ _ (by omega), hm]; rfl)
  rw [h1] at e1 e2 e3
  injection e1 with e1
  injection e1 with q1 q2 _
  subst q1 q2
  injection e2 with e2
  injection e2 with q1 q2 _
  subst q1 q2
  injection e3 with e3
  injection e3 with q1 q2 _
  subst q1 q2
  exact ⟨b, o, ts[i], h1, h2, hm, h3, g1, g2, g3, (h.2 _ (List.getElem_mem hi)).1, (h.2 _ (List.getElem_mem hi)).2⟩

/-- A slice that reads as the atoms ts. -/
def RT (T TM TI : TypeId) (w : World) (A : Option Addr) (ts : List Tn) : Prop := Row T w A (ts.flatMap Tn.cells) ∧ ∀ t ∈ ts, RM TM TI w t.A1 t.xs ∧ RM TM TI w t.A2 t.ys
section
variable {T TM TI : TypeId} {w w' : World} {A : Option Addr} {ts : List Tn}
theorem RT.ext (h : RT T TM TI w A ts) (he : Ext w w') : RT T TM TI w' A ts := ⟨h.1.ext he, fun t ht => ⟨(h.2 t ht).1.ext he, (h.2 t ht).2.ext he⟩⟩
theorem RT.at_ (h : RT T TM TI w A ts) {i : Nat} (hi : i < ts.length) : ∃ b o t, A = some ⟨b, o, none⟩ ∧ b < w.heap.size ∧ ts[i]? = some t ∧
    w.cell? ⟨b, o + i * 4, none⟩ = some (.int .i64 t.kind) ∧ w.cell? ⟨b, o + i * 4 + 1, none⟩ = some (.int .i64 t.n) ∧ w.cell? ⟨b, o + i * 4 + 2, none⟩ = some (.slice t.A1 t.xs.length t.k1) ∧ w.cell? ⟨b, o + i * 4 + 3, none⟩ = some (.slice t.A2 t.ys.length t.k2) ∧ RM TM TI w t.A1 t.xs ∧ RM TM TI w t.A2 t.ys := by
  have hm : ts[i]? = some ts[i] := List.getElem?_eq_getElem hi
  obtain ⟨b, o, h1, h2, h3⟩ := Row.at_ h.1 (j := i * 4 + 0) (u := .int .i64 ts[i].kind) (by rw [flat_at Tn.len _ _ _ (by omega), hm]; rfl)
  obtain ⟨b', o', e1, _, g1⟩ := Row.at_ h.1 (j := i * 4 + 1) (u := .int .i64 ts[i].n) (by rw [flat_at Tn.len _ _ _ (by omega), hm]; rfl)
  obtain ⟨b'', o'', e2, _, g2⟩ := Row.at_ h.1 (j := i * 4 + 2) (u := .slice ts[i].A1 ts[i].xs.length ts[i].k1) (by rw [flat_at Tn.len _ _ _ (by omega), hm]; rfl)
  obtain ⟨b3, o3, e3, _, g3⟩ := Row.at_ h.1 (j := i * 4 + 3) (u := .slice ts[i].A2 ts[i].ys.length ts[i].k2) (by rw [flat_at Tn.len _ _ _ (by omega), hm]; rfl)
  rw [h1] at e1 e2 e3
  injection e1 with e1
  injection e1 with q1 q2 _
  subst q1 q2
  injection e2 with e2
  injection e2 with q1 q2 _
  subst q1 q2
  injection e3 with e3
  injection e3 with q1 q2 _
  subst q1 q2
  exact ⟨b, o, ts[i], h1, h2, hm, h3, g1, g2, g3, (h.2 _ (List.getElem_mem hi)).1, (h.2 _ (List.getElem_mem hi)).2⟩
end

/-- All lengths together. -/
def totT (ts : List Tn) : Nat := ts.length + (ts.map fun t => totM t.xs + totM t.ys).sum
theorem totT_cons (a : Tn) (l : List Tn) : totT (a :: l) = 1 + (totM a.xs + totM a.ys) + totT l := by simp [totT]; omega
theorem totT_snoc (a : Tn) (l : List Tn) : totT (l ++ [a]) = totT l + 1 + (totM a.xs + totM a.ys) := by simp [totT]; omega
theorem totT_take {ts : List Tn} {j : Nat} {a : Tn} (h : ts[j]? = some a) : totT (ts.take (j + 1)) = totT (ts.take j) + 1 + (totM a.xs + totM a.ys) := by
  rw [List.take_add_one, h]
  exact totT_snoc a _
theorem totT_le : ∀ (ts : List Tn) (j : Nat), totT (ts.take j) ≤ totT ts
  | [], j => by simp
  | a :: l, 0 => by simp [totT]
  | a :: l, j + 1 => by
    have := totT_le l j
    rw [List.take_succ_cons, totT_cons, totT_cons]
    omega
theorem totT_one {ts : List Tn} {n : Nat} (h : totT ts ≤ n) : ts.length ≤ n ∧ ∀ t ∈ ts, totM t.xs ≤ n ∧ totM t.ys ≤ n := by
  refine ⟨by unfold totT at h; omega, fun t ht => ?_⟩
  have : totM t.xs + totM t.ys ≤ (ts.map fun t => totM t.xs + totM t.ys).sum := le_sum_mem (List.mem_map.2 ⟨t, ht, rfl⟩)
  unfold totT at h
  omega
theorem totT_dat : ∀ {ts ts' : List Tn}, ts'.map Tn.dat = ts.map Tn.dat → totT ts' = totT ts
  | [], [], _ => rfl
  | [], _ :: _, h => by cases h
  | _ :: _, [], h => by cases h
  | a :: l, b :: l', h => by
    injection h with h1 h2
    have := totT_dat h2
    unfold Tn.dat at h1
    simp only [Prod.mk.injEq] at h1
    rw [totT_cons, totT_cons, tot_dat h1.2.2.1, tot_dat h1.2.2.2, this]
theorem SzT.of_tot {ts : List Tn} (h : totT ts ≤ 1048576) : SzT ts := by
  obtain ⟨h1, h2⟩ := totT_one h
  exact ⟨by omega, fun t ht => ⟨SzM.of_tot (by have := (h2 t ht).1; omega), SzM.of_tot (by have := (h2 t ht).2; omega)⟩⟩
theorem SzT.of_dat {ts ts' : List Tn} (hd : ts'.map Tn.dat = ts.map Tn.dat) (h : totT ts ≤ 1048576) : SzT ts' := SzT.of_tot (by rw [totT_dat hd]; exact h)

/-! ### memory that a call owns -/
def ft (t : Tn) (b : Nat) : Prop := foot t.A1 t.xs b ∨ foot t.A2 t.ys b
def OPs (TM TI : TypeId) (w : World) (lo : Nat) (ts : List Tn) : Prop :=
  (∀ t ∈ ts, OM TM TI w lo t.A1 t.k1 t.xs ∧ OM TM TI w lo t.A2 t.k2 t.ys) ∧ (∀ t ∈ ts, ∀ b, foot t.A1 t.xs b → ¬ foot t.A2 t.ys b) ∧ ts.Pairwise fun s t => ∀ b, ft s b → ¬ ft t b
/-- A slice that owns the atoms ts and their sums. -/
def OT (T TM TI : TypeId) (w : World) (lo : Nat) (A : Option Addr) (k : Nat) (ts : List Tn) : Prop := w.ownsRow lo T 4 (.slice A ts.length k) ts.length (ts.flatMap Tn.cells) ∧ OPs TM TI w lo ts
section
variable {T TM TI : TypeId} {w a : World} {lo k : Nat} {A : Option Addr} {ts : List Tn}
theorem OPs.ext (h : OPs TM TI w lo ts) (he : Ext w a) : OPs TM TI a lo ts := ⟨fun t ht => ⟨(h.1 t ht).1.ext he, (h.1 t ht).2.ext he⟩, h.2⟩
theorem OPs.base {lo' : Nat} (h : OPs TM TI w lo ts) (hl : lo' ≤ lo) : OPs TM TI w lo' ts := ⟨fun t ht => ⟨(h.1 t ht).1.base hl, (h.1 t ht).2.base hl⟩, h.2⟩
theorem OPs.set (h : OPs TM TI w lo ts) {p : Addr} (hp : p.block < lo) (v : Value) : OPs TM TI (w.setCell p v) lo ts := ⟨fun t ht => ⟨(h.1 t ht).1.set hp v, (h.1 t ht).2.set hp v⟩, h.2⟩
theorem OT.ext (h : OT T TM TI w lo A k ts) (he : Ext w a) : OT T TM TI a lo A k ts := ⟨own_ext h.1 he, h.2.ext he⟩
theorem OT.base {lo' : Nat} (h : OT T TM TI w lo A k ts) (hl : lo' ≤ lo) : OT T TM TI w lo' A k ts := ⟨own_base h.1 hl, h.2.base hl⟩
theorem OT.set (h : OT T TM TI w lo A k ts) {p : Addr} (hp : p.block < lo) (v : Value) : OT T TM TI (w.setCell p v) lo A k ts := ⟨ownsRow_setCell_below h.1 hp v, h.2.set hp v⟩
theorem OT.rt (h : OT T TM TI w lo A k ts) : RT T TM TI w A ts := ⟨Row.of_own h.1, fun t ht => ⟨(h.2.1 t ht).1.rm, (h.2.1 t ht).2.rm⟩⟩
theorem OPs.ft_ (h : OPs TM TI w lo ts) {t : Tn} (ht : t ∈ ts) {b : Nat} (hb : ft t b) : lo ≤ b ∧ b < w.heap.size := by
  rcases hb with hb | hb
  · exact (h.1 t ht).1.foot_ hb
  · exact (h.1 t ht).2.foot_ hb
/-- Whose type a block is of. -/
def Typed (w : World) (b : Nat) (t : TypeId) : Prop := ∃ c fr, w.heap[b]? = some (.cells c t fr)
theorem Typed.same {t u : TypeId} {b : Nat} (h : Typed w b t) (h' : Typed w b u) : t = u := by
  obtain ⟨c, fr, h⟩ := h
  obtain ⟨c', fr', h'⟩ := h'
  rw [h] at h'
  injection h' with h'
  injection h' with _ e _
theorem own_typed {size n : Nat} {xs : List Value} (h : w.ownsRow lo T size (.slice A n k) n xs) {b : Nat} (hb : atB A b) : Typed w b T := by
  obtain ⟨o, s, rfl⟩ := hb
  rcases h.2 with ⟨e, _⟩ | ⟨g, cap, cur, e, _, hg, _⟩
  · injection e with e
    cases e
  · injection e with e
    injection e with e
    injection e with e _ _
    subst e
    exact ⟨_, _, hg⟩
theorem OM.typed {ms : List Mn} (h : OM TM TI w lo A k ms) {b : Nat} (hb : foot A ms b) : Typed w b TM ∨ Typed w b TI := by
  rcases hb with hb | ⟨m, hm, hb⟩
  · exact .inl (own_typed h.1 hb)
  · exact .inr (own_typed (h.2.1 m hm) hb)
theorem OPs.typed (h : OPs TM TI w lo ts) {t : Tn} (ht : t ∈ ts) {b : Nat} (hb : ft t b) : Typed w b TM ∨ Typed w b TI := by
  rcases hb with hb | hb
  · exact (h.1 t ht).1.typed hb
  · exact (h.1 t ht).2.typed hb
end

def HeadT (f : Nat → Value) (ts : List Tn) : Prop := ∀ t u, (ts.flatMap Tn.cells)[t]? = some u → f t = u
theorem HeadT.snoc {f : Nat → Value} {ts : List Tn} {m : Tn} (h : HeadT f ts) : HeadT (fun j => if j = ts.length * 4 + 3 then .slice m.A2 m.ys.length m.k2 else if j = ts.length * 4 + 2 then .slice m.A1 m.xs.length m.k1 else if j = ts.length * 4 + 1 then .int .i64 m.n else if j = ts.length * 4 then .int .i64 m.kind else f j) (ts ++ [m]) := by
  intro t u hu
  have hl : (ts.flatMap Tn.cells).length = ts.length * 4 := flat_length Tn.len ts
  rw [List.flatMap_append] at hu
  show (if t = ts.length * 4 + 3 then _ else if t = ts.length * 4 + 2 then _ else if t = ts.length * 4 + 1 then _ else if t = ts.length * 4 then _ else f t) = u
  rcases Nat.lt_or_ge t (ts.length * 4) with ht | ht
  · rw [List.getElem?_append_left (by omega)] at hu
    rw [if_neg (by omega), if_neg (by omega), if_neg (by omega), if_neg (by omega)]
    exact h t u hu
  · rw [List.getElem?_append_right (by omega), hl] at hu
    have e : [m].flatMap Tn.cells = [.int .i64 m.kind, .int .i64 m.n, .slice m.A1 m.xs.length m.k1, .slice m.A2 m.ys.length m.k2] := rfl
    rw [e] at hu
    obtain ⟨q, rfl⟩ : ∃ q, t = ts.length * 4 + q := ⟨t - ts.length * 4, by omega⟩
    rw [show ts.length * 4 + q - ts.length * 4 = q from by omega] at hu
    match q, hu with
    | 0, hu => rw [if_neg (by omega), if_neg (by omega), if_neg (by omega), if_pos (by omega)]; simpa using hu
    | 1, hu => rw [if_neg (by omega), if_neg (by omega), if_pos rfl]; simpa using hu
    | 2, hu => rw [if_neg (by omega), if_pos rfl]; simpa using hu
    | 3, hu => rw [if_pos rfl]; simpa using hu
    | q + 4, hu => simp at hu
theorem own_of_headT {w : World} {g T lo : Nat} {f : Nat → Value} {ts : List Tn} (h : w.rowIs g T (ts.length * 4) f) (hf : HeadT f ts) (hl : lo ≤ g) (hm : ts.length ≤ maxLen) :
    w.ownsRow lo T 4 (.slice (some ⟨g, 0, none⟩) ts.length ts.length) ts.length (ts.flatMap Tn.cells) := by
  have hlen : (ts.flatMap Tn.cells).length = ts.length * 4 := flat_length Tn.len ts
  obtain ⟨c, hg, hc, hcf⟩ := h
  refine ⟨hlen, .inr ⟨g, ts.length, c, rfl, hl, hg, Nat.le_refl _, hm, hc, ?_⟩⟩
  apply List.ext_getElem?
  intro i
  rw [List.getElem?_take]
  by_cases hi : i < ts.length * 4
  · rw [if_pos hi, Array.getElem?_toList, hcf i hi, List.getElem?_eq_getElem (by omega)]
    rw [hf i _ (List.getElem?_eq_getElem (by omega))]
  · rw [if_neg hi, List.getElem?_eq_none (by omega)]

/-- A row g of n atoms that is being filled: the first ones are ts', new memory from lo on. -/
def BltT (T TM TI : TypeId) (w : World) (lo g n : Nat) (d : List (Int × Int × List (Int × List Int) × List (Int × List Int))) (ts' : List Tn) : Prop :=
  ts'.map Tn.dat = d.take ts'.length ∧ ts'.length ≤ n ∧ lo ≤ g ∧ (∃ f, w.rowIs g T (n * 4) f ∧ HeadT f ts') ∧ OPs TM TI w lo ts'
section
variable {T TM TI : TypeId} {w w1 : World} {lo g n : Nat} {d : List (Int × Int × List (Int × List Int) × List (Int × List Int))} {ts' : List Tn}
theorem BltT.start {z : Array Value} (hl : lo ≤ w.heap.size) : BltT T TM TI (w.alloc (.cells (madeCells z (n * 4)) T)) lo w.heap.size n d [] :=
  ⟨rfl, Nat.zero_le _, hl, ⟨_, row_made w z (n * 4) T, fun t u hu => by simp at hu⟩, fun m hm => (by cases hm), fun m hm => (by cases hm), List.Pairwise.nil⟩
theorem BltT.lt (h : BltT T TM TI w lo g n d ts') : g < w.heap.size := let ⟨_, _, _, ⟨_, h, _⟩, _⟩ := h; h.lt
theorem BltT.cell (h : BltT T TM TI w lo g n d ts') {i : Nat} (hi : i < n * 4) : ∃ v, w.cell? ⟨g, i, none⟩ = some v := let ⟨_, _, _, ⟨_, h, _⟩, _⟩ := h; ⟨_, h.cell hi⟩
theorem BltT.frozen (h : BltT T TM TI w lo g n d ts') (i : Nat) : w.frozen? ⟨g, i, none⟩ = false := let ⟨_, _, _, ⟨_, h, _⟩, _⟩ := h; h.frozen i
theorem BltT.ext (h : BltT T TM TI w lo g n d ts') (he : Ext w w1) : BltT T TM TI w1 lo g n d ts' :=
  let ⟨h1, h2, h3, ⟨f, h4, h5⟩, h6⟩ := h
  ⟨h1, h2, h3, ⟨f, row_ext h4 he, h5⟩, h6.ext he⟩
theorem OPs.upd {S : Nat → Prop} {a : World} (h : OPs TM TI w lo ts') (he : Upd S w a) (hs : ∀ t ∈ ts', ∀ b, ft t b → ¬ S b) : OPs TM TI a lo ts' :=
  ⟨fun t ht => ⟨(h.1 t ht).1.upd he fun b hb => hs t ht b (.inl hb), (h.1 t ht).2.upd he fun b hb => hs t ht b (.inr hb)⟩, h.2⟩
theorem BltT.step (hT : T ≠ TM) (hT' : T ≠ TI) (h : BltT T TM TI w lo g n d ts') (he : Ext w w1) {m : Tn} (hd : d[ts'.length]? = some m.dat) (hn : ts'.length < n) (ho : OPs TM TI w1 w.heap.size [m]) :
    BltT T TM TI ((((w1.setCell ⟨g, ts'.length * 4, none⟩ (.int .i64 m.kind)).setCell ⟨g, ts'.length * 4 + 1, none⟩ (.int .i64 m.n)).setCell ⟨g, ts'.length * 4 + 2, none⟩ (.slice m.A1 m.xs.length m.k1)).setCell ⟨g, ts'.length * 4 + 3, none⟩ (.slice m.A2 m.ys.length m.k2)) lo g n d (ts' ++ [m]) := by
  have hg := h.lt
  obtain ⟨h1, h2, h3, ⟨f, h4, h5⟩, h6⟩ := h
  have hup : Upd (fun b => b = g) w1 ((((w1.setCell ⟨g, ts'.length * 4, none⟩ (.int .i64 m.kind)).setCell ⟨g, ts'.length * 4 + 1, none⟩ (.int .i64 m.n)).setCell ⟨g, ts'.length * 4 + 2, none⟩ (.slice m.A1 m.xs.length m.k1)).setCell ⟨g, ts'.length * 4 + 3, none⟩ (.slice m.A2 m.ys.length m.k2)) :=
    (((Upd.set (S := fun b => b = g) (Upd.refl _ _) (p := ⟨g, ts'.length * 4, none⟩) (.inl rfl) _).set (p := ⟨g, ts'.length * 4 + 1, none⟩) (.inl rfl) _).set (p := ⟨g, ts'.length * 4 + 2, none⟩) (.inl rfl) _).set (p := ⟨g, ts'.length * 4 + 3, none⟩) (.inl rfl) _
  have hty : Typed w g T := by
    obtain ⟨c, hc, _, _⟩ := h4
    exact ⟨_, _, hc⟩
  have hdiff : ∀ t ∈ ts', ∀ b, ft t b → b ≠ g := by
    rintro t ht b hb rfl
    rcases h6.typed ht hb with e | e
    · exact hT (hty.same e)
    · exact hT' (hty.same e)
  have hlo : ∀ b, ft m b → w.heap.size ≤ b := fun b hb => (ho.ft_ (List.mem_singleton.2 rfl) hb).1
  have hhi : ∀ t ∈ ts', ∀ b, ft t b → b < w.heap.size := fun t ht b hb => (h6.ft_ ht hb).2
  have p1 := (h6.ext he).upd hup hdiff
  have p2 : OPs TM TI _ lo [m] := (ho.upd hup fun t ht b hb e => by
    obtain rfl := List.mem_singleton.1 ht
    have := hlo b hb
    omega).base (by omega)
  refine ⟨?_, by simp; omega, h3, ⟨_, ((((row_ext h4 he).set _ _).set _ _).set _ _).set _ _, h5.snoc⟩, fun a ha => ?_, fun a ha => ?_, ?_⟩
  · rw [List.map_append, h1, List.length_append]
    show d.take ts'.length ++ [m.dat] = d.take (ts'.length + 1)
    rw [List.take_add_one, hd]
    rfl
  · rcases List.mem_append.1 ha with ha | ha
    · exact p1.1 a ha
    · exact p2.1 a ha
  · rcases List.mem_append.1 ha with ha | ha
    · exact p1.2.1 a ha
    · exact p2.2.1 a ha
  · rw [List.pairwise_append]
    refine ⟨h6.2.2, List.pairwise_singleton _ _, fun a ha b hb x hx hx' => ?_⟩
    obtain rfl := List.mem_singleton.1 hb
    have := hhi a ha x hx
    have := hlo x hx'
    omega
theorem BltT.done (h : BltT T TM TI w lo g n d ts') (hn : ts'.length = n) (hd : d.length = n) (hm : n ≤ maxLen) : ts'.map Tn.dat = d ∧ OT T TM TI w lo (some ⟨g, 0, none⟩) n ts' := by
  obtain ⟨h1, h2, h3, ⟨f, h4, h5⟩, h6⟩ := h
  subst hn
  exact ⟨by rw [h1, List.take_of_length_le (by omega)], own_of_headT h4 h5 h3 hm, h6⟩
end

section
variable {H : Type} {enc : TypeId × Value → H} {P : Program} {w : World} {base fuel : Nat} {spare : Nat → Bool} {held : Bool}
/-- A struct of 4 fields of one cell each. -/
theorem trod_fourT {t : TypeId} {f0 f1 f2 f3 : Field} (ht : P.underlying t = some (.struct #[f0, f1, f2, f3])) (o0 : f0.offset = 0) (o1 : f1.offset = 1) (o2 : f2.offset = 2) (o3 : f3.offset = 3) (c0 : P.cellsOf f0.type = 1) (c1 : P.cellsOf f1.type = 1) (c2 : P.cellsOf f2.type = 1) (c3 : P.cellsOf f3.type = 1) (hc : P.cellsOf t = 4)
    {cs : List Value} {x : DataW H × List MemPlace} (h : DataW.trod enc P w base spare held fuel t cs = some x) :
    ∃ v0 v1 v2 v3 n y0 y1 y2 y3, cs = [v0, v1, v2, v3] ∧ DataW.trod enc P w base spare held n f0.type [v0] = some y0 ∧ DataW.trod enc P w base spare held n f1.type [v1] = some y1 ∧ DataW.trod enc P w base spare held n f2.type [v2] = some y2 ∧ DataW.trod enc P w base spare held n f3.type [v3] = some y3 := by
  obtain ⟨xs, n, _, _, hlen, hxl, hg⟩ := DataW.trod_struct ht h
  rw [hc] at hlen
  match cs, hlen with
  | [v0, v1, v2, v3], _ =>
    have h0 := hg 0 f0 rfl
    rw [o0, c0] at h0
    have h1 := hg 1 f1 rfl
    rw [o1, c1] at h1
    have h2 := hg 2 f2 rfl
    rw [o2, c2] at h2
    have h3 := hg 3 f3 rfl
    rw [o3, c3] at h3
    match xs, hxl with
    | [y0, y1, y2, y3], _ => exact ⟨v0, v1, v2, v3, n, y0, y1, y2, y3, rfl, h0, h1, h2, h3⟩
end

set_option maxRecDepth 100000 in
theorem trod_poly_ {H : Type} {enc : TypeId × Value → H} {w : World} {base fuel : Nat} {spare : Nat → Bool} {held : Bool} {cs : List Value} {x : DataW H × List MemPlace} (h : DataW.trod enc Try.prog w base spare held fuel 60 cs = some x) :
    ∃ (A : Option Addr) (k : Nat) (ms : List Mn), cs = [.slice A ms.length k] ∧ AM w A ms ∧ SzA ms := by
  obtain ⟨v0, n, y0, rfl, h0⟩ := trod_one Try.underlying60 rfl (by kernel_rfl) (by kernel_rfl) h
  exact trod_monos Try.underlying58 Try.underlying90 rfl rfl (by kernel_rfl) (by kernel_rfl) (by kernel_rfl) Try.underlying3 Try.underlying33 Try.underlying3 (by kernel_rfl) h0

set_option maxRecDepth 100000 in
theorem read_tab {H : Type} {enc : TypeId × Value → H} {W : World} {base : Nat} {v : Value} {d : DataW H} {p : List MemPlace} (hv : Value.okWide Try.prog W .any base 24 v) (h : DataW.Trod enc Try.prog W 0 (fun _ => true) true 24 v d p) :
    ∃ (A : Option Addr) (k : Nat) (ts : List Tn), v = .agg #[.slice A ts.length k] ∧ AT W A ts ∧ SzAT ts := by
  obtain ⟨cs, rfl, hsz⟩ := okWide_struct Try.underlying24 hv
  obtain ⟨fuel, hf⟩ := h
  obtain ⟨v0, n, y0, e, h0⟩ := trod_one Try.underlying24 rfl (by kernel_rfl) (by kernel_rfl) hf
  obtain ⟨A, k, l, h1, h2, h3, h4⟩ := trod_list (f := Tn.cells) (s := 4) (Q := fun t => (AM W t.A1 t.xs ∧ AM W t.A2 t.ys) ∧ SzA t.xs ∧ SzA t.ys) Tn.len (by decide) Try.underlying22 (by kernel_rfl) (fun n cs' y hy => by
    obtain ⟨v0, v1, v2, v3, n', y0, y1, y2, y3, rfl, g0, g1, g2, g3⟩ := trod_fourT Try.underlying62 rfl rfl rfl rfl (by kernel_rfl) (by kernel_rfl) (by kernel_rfl) (by kernel_rfl) (by kernel_rfl) hy
    obtain ⟨c, e0, _⟩ := DataW.trod_int Try.underlying3 g0
    obtain ⟨c', e1, _⟩ := DataW.trod_int Try.underlying3 g1
    obtain ⟨A1, k1, xs, e2, m1, s1⟩ := trod_poly_ g2
    obtain ⟨A2, k2, ys, e3, m2, s2⟩ := trod_poly_ g3
    injection e0 with e0 _
    injection e1 with e1 _
    injection e2 with e2 _
    injection e3 with e3 _
    subst e0 e1 e2 e3
    exact ⟨⟨c, c', A1, k1, xs, A2, k2, ys⟩, rfl, ⟨m1, m2⟩, s1, s2⟩) h0
  injection h1 with h1 _
  subst h1
  obtain ⟨l'⟩ := cs
  simp only [Value.cells] at e
  exact ⟨A, k, l, by rw [show l' = [_] from e], ⟨h2, fun t ht => (h3 t ht).1⟩, h4, fun t ht => (h3 t ht).2⟩
end Go.Proofs.Ytkdggfkigjpbfaa
