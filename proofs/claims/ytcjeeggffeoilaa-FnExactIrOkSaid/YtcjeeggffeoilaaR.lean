/- How an argument's data read: lists of what came in. No function in sight. Conditions: none. -/
import Derived.Test.YtcjeeggffeoilaaM
import Derived.Deep.Slices
import Derived.Carry
namespace Go.Proofs.Ytcjeeggffeoilaa
open Go Go.RowKit Go.WideShapes Go.Deep
set_option linter.unusedVariables false
set_option linter.unusedSimpArgs false

theorem list_of {α : Type} {P : Nat → α → Prop} : ∀ {n : Nat}, (∀ i, i < n → ∃ a, P i a) → ∃ l : List α, l.length = n ∧ ∀ i a, l[i]? = some a → P i a
  | 0, _ => ⟨[], rfl, fun i a h => by simp at h⟩
  | n + 1, h => by
    obtain ⟨l, hl, hp⟩ := list_of (n := n) fun i hi => h i (by omega)
    obtain ⟨a, ha⟩ := h n (by omega)
    refine ⟨l ++ [a], by simp [hl], fun i b hb => ?_⟩
    rcases Nat.lt_or_ge i l.length with hi | hi
    · rw [List.getElem?_append_left hi] at hb
      exact hp i b hb
    · rw [List.getElem?_append_right hi] at hb
      have : i - l.length = 0 := by
        rcases Nat.eq_zero_or_pos (i - l.length) with h | h
        · exact h
        · rw [List.getElem?_eq_none (by simp; omega)] at hb; cases hb
      rw [this] at hb
      injection hb with hb
      subst hb
      rw [show i = n by omega]
      exact ha

theorem addr_plain {w : World} {a : Addr} {v : Value} (h : w.cell? a = some v) : ∃ b o, a = ⟨b, o, none⟩ := by
  obtain ⟨b, o, s⟩ := a
  cases s with
  | none => exact ⟨b, o, rfl⟩
  | some s =>
    unfold World.cell? at h
    split at h
    · simp at h
    · cases h
theorem add_plain (b o n : Nat) : (⟨b, o, none⟩ : Addr).add n = ⟨b, o + n, none⟩ := by unfold Addr.add; split <;> simp_all

section
variable {H : Type} {enc : TypeId × Value → H} {P : Program} {w : World} {base fuel : Nat} {spare : Nat → Bool} {held : Bool}
/-- A slice, its elements read by a law of their own. -/
theorem trod_list {α : Type} {t e s : TypeId} {f : α → List Value} {Q : α → Prop} (hf : ∀ a, (f a).length = s) (hs : 0 < s) (ht : P.underlying t = some (.slice e)) (hc : P.cellsOf e = s)
    (he : ∀ (n : Nat) (cs' : List Value) (y : DataW H × List MemPlace), DataW.trod enc P w base spare held n e cs' = some y → ∃ a, cs' = f a ∧ Q a)
    {cs : List Value} {x : DataW H × List MemPlace} (h : DataW.trod enc P w base spare held fuel t cs = some x) :
    ∃ (A : Option Addr) (k : Nat) (l : List α), cs = [.slice A l.length k] ∧ AR w A (l.flatMap f) ∧ (∀ a ∈ l, Q a) ∧ l.length ≤ 9223372036854775807 := by
  rcases open_slice ht h with ⟨hcs, _⟩ | ⟨a, len, cap, m, n, D, Pl, hcs, _, hl, hm, hmm, _, hi⟩
  · exact ⟨none, 0, [], hcs, AR.nil _ _, fun a ha => (by cases ha), by simp⟩
  · have hlm : len ≤ m := by rw [hmm]; split <;> omega
    obtain ⟨l, hl1, hl2⟩ := list_of (n := len) (P := fun i x => Q x ∧ ∀ j, j < s → w.cell? ((a.add (i * s)).add j) = (f x)[j]?) fun i hil => by
      obtain ⟨cs', hcell, ht'⟩ := hi i (by omega)
      rw [hc] at hcell
      obtain ⟨_, _, hat⟩ := World.cells?_some hcell
      obtain ⟨x, rfl, hq⟩ := he n cs' _ ht'
      exact ⟨x, hq, hat⟩
    have hmx : len ≤ 9223372036854775807 := by
      have : cap ≤ 9223372036854775807 := hm
      omega
    refine ⟨some a, cap, l, by rw [hl1]; exact hcs, fun hn => ?_, fun x hx => ?_, by rw [hl1]; exact hmx⟩
    · have h0 : 0 < l.length := by
        cases l with
        | nil => exact absurd rfl hn
        | cons a l => simp
      have g0 := (hl2 0 _ (List.getElem?_eq_getElem h0)).2 0 hs
      rw [List.getElem?_eq_getElem (by rw [hf]; exact hs)] at g0
      simp only [Nat.zero_mul] at g0
      have e0 : (a.add 0).add 0 = a := by simp [Addr.add]
      rw [e0] at g0
      obtain ⟨b, o, rfl⟩ := addr_plain g0
      refine ⟨b, o, rfl, fun j u hu => ?_⟩
      have hj : j < (l.flatMap f).length := by
        rcases Nat.lt_or_ge j (l.flatMap f).length with h | h
        · exact h
        · rw [List.getElem?_eq_none h] at hu; cases hu
      rw [flat_length hf] at hj
      have hd := Nat.div_add_mod j s
      have hr := Nat.mod_lt j hs
      have hq : j / s < l.length := by
        rw [Nat.div_lt_iff_lt_mul hs]
        exact hj
      have e := flat_at hf l (j / s) (j % s) hr
      rw [show j / s * s + j % s = j by rw [Nat.mul_comm]; exact hd, hu, List.getElem?_eq_getElem hq] at e
      have g := (hl2 _ _ (List.getElem?_eq_getElem hq)).2 _ hr
      rw [add_plain, add_plain, Nat.add_assoc, show j / s * s + j % s = j by rw [Nat.mul_comm]; exact hd] at g
      rw [g]
      exact e.symm
    · obtain ⟨i, hi, rfl⟩ := List.getElem_of_mem hx
      exact (hl2 i _ (List.getElem?_eq_getElem hi)).1

theorem trod_ints {t e : TypeId} (ht : P.underlying t = some (.slice e)) (he : P.underlying e = some (.int .i64)) (hc : P.cellsOf e = 1) {cs : List Value} {x : DataW H × List MemPlace} (h : DataW.trod enc P w base spare held fuel t cs = some x) :
    ∃ (A : Option Addr) (k : Nat) (xs : List Int), cs = [.slice A xs.length k] ∧ AI w A xs ∧ xs.length ≤ 9223372036854775807 := by
  obtain ⟨A, k, l, h1, h2, _, h3⟩ := trod_list (f := fun x : Int => [.int .i64 x]) (s := 1) (Q := fun _ => True) (fun _ => rfl) Nat.one_pos ht hc (fun n cs' y hy => by
    obtain ⟨x, hx, _⟩ := DataW.trod_int he hy
    exact ⟨x, hx, trivial⟩) h
  refine ⟨A, k, l, h1, ?_, h3⟩
  have e : ∀ l : List Int, l.flatMap (fun x : Int => [Value.int .i64 x]) = l.map (Value.int .i64) := fun l => by
    induction l with
    | nil => rfl
    | cons a l ih => simp [List.flatMap_cons, ih]
  rw [e] at h2
  exact h2

theorem trod_cap {t e : TypeId} (ht : P.underlying t = some (.slice e)) {A : Option Addr} {m k : Nat} {x : DataW H × List MemPlace} (h : DataW.trod enc P w base spare held fuel t [.slice A m k] = some x) : m ≤ k := by
  rcases open_slice ht h with ⟨hcs, _⟩ | ⟨a, len, cap, m', n, D, Pl, hcs, _, hl, _⟩
  · injection hcs with hcs _
    injection hcs with _ h1 h2
    omega
  · injection hcs with hcs _
    injection hcs with _ h1 h2
    omega
theorem trod_bytes {t e : TypeId} (ht : P.underlying t = some (.slice e)) (he : P.underlying e = some (.int .u8)) (hc : P.cellsOf e = 1) {cs : List Value} {x : DataW H × List MemPlace} (h : DataW.trod enc P w base spare held fuel t cs = some x) :
    ∃ (A : Option Addr) (k : Nat) (xs : List Int), cs = [.slice A xs.length k] ∧ AB w A xs ∧ xs.length ≤ 9223372036854775807 ∧ xs.length ≤ k := by
  obtain ⟨A, k, l, h1, h2, hq, h3⟩ := trod_list (f := fun x : Int => [.int .u8 x]) (s := 1) (Q := fun x => 0 ≤ x ∧ x < 256) (fun _ => rfl) Nat.one_pos ht hc (fun n cs' y hy => by
    obtain ⟨x, hx, _, hw⟩ := DataW.trod_int he hy
    refine ⟨x, hx, ?_⟩
    simp [Lit.wf] at hw
    have h1 : IntKind.u8.min = 0 := by decide
    have h2 : IntKind.u8.max = 255 := by decide
    omega) h
  subst h1
  refine ⟨A, k, l, rfl, ⟨?_, hq⟩, h3, trod_cap ht h⟩
  have e : ∀ l : List Int, l.flatMap (fun x : Int => [Value.int .u8 x]) = l.map (Value.int .u8) := fun l => by
    induction l with
    | nil => rfl
    | cons a l ih => simp [List.flatMap_cons, ih]
  rw [e] at h2
  exact h2

/-- A struct of two fields of one cell each. -/
theorem trod_two {t : TypeId} {f0 f1 : Field} (ht : P.underlying t = some (.struct #[f0, f1])) (o0 : f0.offset = 0) (o1 : f1.offset = 1) (c0 : P.cellsOf f0.type = 1) (c1 : P.cellsOf f1.type = 1) (hc : P.cellsOf t = 2)
    {cs : List Value} {x : DataW H × List MemPlace} (h : DataW.trod enc P w base spare held fuel t cs = some x) :
    ∃ v0 v1 n y0 y1, cs = [v0, v1] ∧ DataW.trod enc P w base spare held n f0.type [v0] = some y0 ∧ DataW.trod enc P w base spare held n f1.type [v1] = some y1 := by
  obtain ⟨xs, n, _, _, hlen, hxl, hg⟩ := DataW.trod_struct ht h
  rw [hc] at hlen
  match cs, hlen with
  | [v0, v1], _ =>
    have h0 := hg 0 f0 rfl
    have h1 := hg 1 f1 rfl
    rw [o0, c0] at h0
    rw [o1, c1] at h1
    match xs, hxl with
    | [y0, y1], _ => exact ⟨v0, v1, n, y0, y1, rfl, h0, h1⟩
theorem trod_monos {t e i : TypeId} {f0 f1 : Field} (ht : P.underlying t = some (.slice e)) (he : P.underlying e = some (.struct #[f0, f1])) (o0 : f0.offset = 0) (o1 : f1.offset = 1) (c0 : P.cellsOf f0.type = 1) (c1 : P.cellsOf f1.type = 1)
    (hc : P.cellsOf e = 2) (t0 : P.underlying f0.type = some (.int .i64)) (t1 : P.underlying f1.type = some (.slice i)) (ti : P.underlying i = some (.int .i64)) (ci : P.cellsOf i = 1)
    {cs : List Value} {x : DataW H × List MemPlace} (h : DataW.trod enc P w base spare held fuel t cs = some x) :
    ∃ (A : Option Addr) (k : Nat) (ms : List Mn), cs = [.slice A ms.length k] ∧ AM w A ms ∧ SzA ms := by
  obtain ⟨A, k, l, h1, h2, h3, h4⟩ := trod_list (f := Mn.cells) (s := 2) (Q := fun m => AI w m.A m.xs ∧ m.xs.length ≤ 9223372036854775807) (fun _ => rfl) (by decide) ht hc (fun n cs' y hy => by
    obtain ⟨v0, v1, n', y0, y1, rfl, g0, g1⟩ := trod_two he o0 o1 c0 c1 hc hy
    obtain ⟨c, e0, _⟩ := DataW.trod_int t0 g0
    obtain ⟨A, k, xs, e1, hI, hn⟩ := trod_ints t1 ti ci g1
    injection e0 with e0 _
    injection e1 with e1 _
    subst e0 e1
    exact ⟨⟨c, A, k, xs⟩, rfl, hI, hn⟩) h
  exact ⟨A, k, l, h1, ⟨h2, fun m hm => (h3 m hm).1⟩, h4, fun m hm => (h3 m hm).2⟩
theorem trod_one {t : TypeId} {f0 : Field} (ht : P.underlying t = some (.struct #[f0])) (o0 : f0.offset = 0) (c0 : P.cellsOf f0.type = 1) (hc : P.cellsOf t = 1)
    {cs : List Value} {x : DataW H × List MemPlace} (h : DataW.trod enc P w base spare held fuel t cs = some x) :
    ∃ v0 n y0, cs = [v0] ∧ DataW.trod enc P w base spare held n f0.type [v0] = some y0 := by
  obtain ⟨xs, n, _, _, hlen, hxl, hg⟩ := DataW.trod_struct ht h
  rw [hc] at hlen
  match cs, hlen with
  | [v0], _ =>
    have h0 := hg 0 f0 rfl
    rw [o0, c0] at h0
    match xs, hxl with
    | [y0], _ => exact ⟨v0, n, y0, rfl, h0⟩
end
end Go.Proofs.Ytcjeeggffeoilaa
