/- Machines and pieces of code as data; how they read. Conditions: none. -/
import Derived.Test.YtcjeeggffeoilaaF
import Derived.Test.YtcjeeggffeoilaaE
namespace Go.Proofs.Ytcjeeggffeoilaa
open Go Go.RowKit Go.WideShapes Go.Deep Go.ChangeShapes
set_option linter.unusedVariables false
set_option linter.unusedSimpArgs false

/-- A machine as it lies in memory. -/
structure Mc where
  A0 : Option Addr
  k0 : Nat
  regs : List Int
  pc : Int
  A2 : Option Addr
  k2 : Nat
  mem : List Int
  save : Int
  let_ : Bool
  waits : Bool
  halt : Int
  A7 : Option Addr
  k7 : Nat
  ins : List Int
  A8 : Option Addr
  k8 : Nat
  outs : List Int
  count : Int
def Mc.cells (m : Mc) : Array Value := #[.slice m.A0 m.regs.length m.k0, .int .i64 m.pc, .slice m.A2 m.mem.length m.k2, .int .i64 m.save, .bool m.let_, .bool m.waits, .int .i64 m.halt, .slice m.A7 m.ins.length m.k7, .slice m.A8 m.outs.length m.k8, .int .i64 m.count]
def Mc.val (m : Mc) : Value := .agg m.cells
def AMc (w : World) (m : Mc) : Prop := AI w m.A0 m.regs ∧ AI w m.A2 m.mem ∧ AI w m.A7 m.ins ∧ AI w m.A8 m.outs
def SzMc (m : Mc) : Prop := m.regs.length ≤ 9223372036854775807 ∧ m.mem.length ≤ 9223372036854775807 ∧ m.ins.length ≤ 9223372036854775807 ∧ m.outs.length ≤ 9223372036854775807
theorem AMc.ext {w w' : World} {m : Mc} (h : AMc w m) (he : Ext w w') : AMc w' m := ⟨h.1.ext he, h.2.1.ext he, h.2.2.1.ext he, h.2.2.2.ext he⟩

section
variable {H : Type} {enc : TypeId × Value → H} {P : Program} {w : World} {base fuel : Nat} {spare : Nat → Bool} {held : Bool}
/-- A struct of 10 fields of one cell each. -/
theorem trod_ten {t : TypeId} {f0 f1 f2 f3 f4 f5 f6 f7 f8 f9 : Field} (ht : P.underlying t = some (.struct #[f0, f1, f2, f3, f4, f5, f6, f7, f8, f9])) (o0 : f0.offset = 0) (o1 : f1.offset = 1) (o2 : f2.offset = 2) (o3 : f3.offset = 3) (o4 : f4.offset = 4) (o5 : f5.offset = 5) (o6 : f6.offset = 6) (o7 : f7.offset = 7) (o8 : f8.offset = 8) (o9 : f9.offset = 9) (c0 : P.cellsOf f0.type = 1) (c1 : P.cellsOf f1.type = 1) (c2 : P.cellsOf f2.type = 1) (c3 : P.cellsOf f3.type = 1) (c4 : P.cellsOf f4.type = 1) (c5 : P.cellsOf f5.type = 1) (c6 : P.cellsOf f6.type = 1) (c7 : P.cellsOf f7.type = 1) (c8 : P.cellsOf f8.type = 1) (c9 : P.cellsOf f9.type = 1) (hc : P.cellsOf t = 10)
    {cs : List Value} {x : DataW H × List MemPlace} (h : DataW.trod enc P w base spare held fuel t cs = some x) :
    ∃ v0 v1 v2 v3 v4 v5 v6 v7 v8 v9 n y0 y1 y2 y3 y4 y5 y6 y7 y8 y9, cs = [v0, v1, v2, v3, v4, v5, v6, v7, v8, v9] ∧ DataW.trod enc P w base spare held n f0.type [v0] = some y0 ∧ DataW.trod enc P w base spare held n f1.type [v1] = some y1 ∧ DataW.trod enc P w base spare held n f2.type [v2] = some y2 ∧ DataW.trod enc P w base spare held n f3.type [v3] = some y3 ∧ DataW.trod enc P w base spare held n f4.type [v4] = some y4 ∧ DataW.trod enc P w base spare held n f5.type [v5] = some y5 ∧ DataW.trod enc P w base spare held n f6.type [v6] = some y6 ∧ DataW.trod enc P w base spare held n f7.type [v7] = some y7 ∧ DataW.trod enc P w base spare held n f8.type [v8] = some y8 ∧ DataW.trod enc P w base spare held n f9.type [v9] = some y9 := by
  obtain ⟨xs, n, _, _, hlen, hxl, hg⟩ := DataW.trod_struct ht h
  rw [hc] at hlen
  match cs, hlen with
  | [v0, v1, v2, v3, v4, v5, v6, v7, v8, v9], _ =>
    have h0 := hg 0 f0 rfl
    rw [o0, c0] at h0
    have h1 := hg 1 f1 rfl
    rw [o1, c1] at h1
    have h2 := hg 2 f2 rfl
    rw [o2, c2] at h2
    have h3 := hg 3 f3 rfl
    rw [o3, c3] at h3
    have h4 := hg 4 f4 rfl
    rw [o4, c4] at h4
    have h5 := hg 5 f5 rfl
    rw [o5, c5] at h5
    have h6 := hg 6 f6 rfl
    rw [o6, c6] at h6
    have h7 := hg 7 f7 rfl
    rw [o7, c7] at h7
    have h8 := hg 8 f8 rfl
    rw [o8, c8] at h8
    have h9 := hg 9 f9 rfl
    rw [o9, c9] at h9
    match xs, hxl with
    | [y0, y1, y2, y3, y4, y5, y6, y7, y8, y9], _ => exact ⟨v0, v1, v2, v3, v4, v5, v6, v7, v8, v9, n, y0, y1, y2, y3, y4, y5, y6, y7, y8, y9, rfl, h0, h1, h2, h3, h4, h5, h6, h7, h8, h9⟩
/-- A struct of 7 fields of one cell each. -/
theorem trod_seven {t : TypeId} {f0 f1 f2 f3 f4 f5 f6 : Field} (ht : P.underlying t = some (.struct #[f0, f1, f2, f3, f4, f5, f6])) (o0 : f0.offset = 0) (o1 : f1.offset = 1) (o2 : f2.offset = 2) (o3 : f3.offset = 3) (o4 : f4.offset = 4) (o5 : f5.offset = 5) (o6 : f6.offset = 6) (c0 : P.cellsOf f0.type = 1) (c1 : P.cellsOf f1.type = 1) (c2 : P.cellsOf f2.type = 1) (c3 : P.cellsOf f3.type = 1) (c4 : P.cellsOf f4.type = 1) (c5 : P.cellsOf f5.type = 1) (c6 : P.cellsOf f6.type = 1) (hc : P.cellsOf t = 7)
    {cs : List Value} {x : DataW H × List MemPlace} (h : DataW.trod enc P w base spare held fuel t cs = some x) :
    ∃ v0 v1 v2 v3 v4 v5 v6 n y0 y1 y2 y3 y4 y5 y6, cs = [v0, v1, v2, v3, v4, v5, v6] ∧ DataW.trod enc P w base spare held n f0.type [v0] = some y0 ∧ DataW.trod enc P w base spare held n f1.type [v1] = some y1 ∧ DataW.trod enc P w base spare held n f2.type [v2] = some y2 ∧ DataW.trod enc P w base spare held n f3.type [v3] = some y3 ∧ DataW.trod enc P w base spare held n f4.type [v4] = some y4 ∧ DataW.trod enc P w base spare held n f5.type [v5] = some y5 ∧ DataW.trod enc P w base spare held n f6.type [v6] = some y6 := by
  obtain ⟨xs, n, _, _, hlen, hxl, hg⟩ := DataW.trod_struct ht h
  rw [hc] at hlen
  match cs, hlen with
  | [v0, v1, v2, v3, v4, v5, v6], _ =>
    have h0 := hg 0 f0 rfl
    rw [o0, c0] at h0
    have h1 := hg 1 f1 rfl
    rw [o1, c1] at h1
    have h2 := hg 2 f2 rfl
    rw [o2, c2] at h2
    have h3 := hg 3 f3 rfl
    rw [o3, c3] at h3
    have h4 := hg 4 f4 rfl
    rw [o4, c4] at h4
    have h5 := hg 5 f5 rfl
    rw [o5, c5] at h5
    have h6 := hg 6 f6 rfl
    rw [o6, c6] at h6
    match xs, hxl with
    | [y0, y1, y2, y3, y4, y5, y6], _ => exact ⟨v0, v1, v2, v3, v4, v5, v6, n, y0, y1, y2, y3, y4, y5, y6, rfl, h0, h1, h2, h3, h4, h5, h6⟩
/-- A struct of 4 fields of one cell each. -/
theorem trod_four {t : TypeId} {f0 f1 f2 f3 : Field} (ht : P.underlying t = some (.struct #[f0, f1, f2, f3])) (o0 : f0.offset = 0) (o1 : f1.offset = 1) (o2 : f2.offset = 2) (o3 : f3.offset = 3) (c0 : P.cellsOf f0.type = 1) (c1 : P.cellsOf f1.type = 1) (c2 : P.cellsOf f2.type = 1) (c3 : P.cellsOf f3.type = 1) (hc : P.cellsOf t = 4)
    {cs : List Value} {x : DataW H × List MemPlace} (h : DataW.trod enc P w base spare held fuel t cs = some x) :
    ∃ v0 v1 v2 v3 n y0 y1 y2 y3, cs = [v0, v1, v2, v3] ∧ DataW.trod enc P w base spare held n f0.type [v0] = some y0 ∧ DataW.trod enc P w base spare held n f1.type [v1] = some y1 ∧ DataW.trod enc P w base spare held n f2.type [v2] = some y2 ∧ DataW.trod enc P w base spare held n f3.type [v3] = some y3 := by
  obtain ⟨xs, n, _, _, hlen, hxl, hg⟩ := DataW.trod_struct ht h
  rw [hc] at hlen
  match cs, hlen with
  | [v0, v1, v2, v3], _ =>
    have h0 := hg 0 f0 rfl
    rw [o0, c0] at h0
    have h1 := hg 1 f1 rfl
    rw [o1, c1] at h1
    have h2 := hg 2 f2 rfl
    rw [o2, c2] at h2
    have h3 := hg 3 f3 rfl
    rw [o3, c3] at h3
    match xs, hxl with
    | [y0, y1, y2, y3], _ => exact ⟨v0, v1, v2, v3, n, y0, y1, y2, y3, rfl, h0, h1, h2, h3⟩
/-- A struct of 5 fields of one cell each. -/
theorem trod_five {t : TypeId} {f0 f1 f2 f3 f4 : Field} (ht : P.underlying t = some (.struct #[f0, f1, f2, f3, f4])) (o0 : f0.offset = 0) (o1 : f1.offset = 1) (o2 : f2.offset = 2) (o3 : f3.offset = 3) (o4 : f4.offset = 4) (c0 : P.cellsOf f0.type = 1) (c1 : P.cellsOf f1.type = 1) (c2 : P.cellsOf f2.type = 1) (c3 : P.cellsOf f3.type = 1) (c4 : P.cellsOf f4.type = 1) (hc : P.cellsOf t = 5)
    {cs : List Value} {x : DataW H × List MemPlace} (h : DataW.trod enc P w base spare held fuel t cs = some x) :
    ∃ v0 v1 v2 v3 v4 n y0 y1 y2 y3 y4, cs = [v0, v1, v2, v3, v4] ∧ DataW.trod enc P w base spare held n f0.type [v0] = some y0 ∧ DataW.trod enc P w base spare held n f1.type [v1] = some y1 ∧ DataW.trod enc P w base spare held n f2.type [v2] = some y2 ∧ DataW.trod enc P w base spare held n f3.type [v3] = some y3 ∧ DataW.trod enc P w base spare held n f4.type [v4] = some y4 := by
  obtain ⟨xs, n, _, _, hlen, hxl, hg⟩ := DataW.trod_struct ht h
  rw [hc] at hlen
  match cs, hlen with
  | [v0, v1, v2, v3, v4], _ =>
    have h0 := hg 0 f0 rfl
    rw [o0, c0] at h0
    have h1 := hg 1 f1 rfl
    rw [o1, c1] at h1
    have h2 := hg 2 f2 rfl
    rw [o2, c2] at h2
    have h3 := hg 3 f3 rfl
    rw [o3, c3] at h3
    have h4 := hg 4 f4 rfl
    rw [o4, c4] at h4
    match xs, hxl with
    | [y0, y1, y2, y3, y4], _ => exact ⟨v0, v1, v2, v3, v4, n, y0, y1, y2, y3, y4, rfl, h0, h1, h2, h3, h4⟩
end

