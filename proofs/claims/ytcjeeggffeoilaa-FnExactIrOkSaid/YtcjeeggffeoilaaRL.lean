/- The program's table of kinds: whatever the order in which it is made, it tells the same. Conditions: none. -/
import Derived.Test.YtcjeeggffeoilaaRK
namespace Go.Proofs.Ytcjeeggffeoilaa
open Go Go.RowKit
set_option linter.unusedVariables false
set_option linter.unusedSimpArgs false

theorem ev_of {a : Act} {s : Nat} {v : Value} (h : a.tmps[s]? = some v) : a.eval (.tmp s) = v := by
  unfold Act.eval
  simp [Array.getD_eq_getD_getElem?, h]
/-- What the table tells of a kind. -/
def kfit (kd k : Int) : Bool := if kd = 1 then wrdOk k else if kd = 2 then inB k 0 3 else if kd = 3 then inB k 1 5 else if kd = 8 then inB k 0 3 else false
set_option maxHeartbeats 1000000 in
theorem kfits (blk : Nat) (kd k : Int) (a : Act) (w : World) (Q : Exit → Act → World → Prop) (hsz : a.tmps.size = 115) (h5 : a.tmps[5]? = some (.pointer (some ⟨blk, 0, none⟩))) (c0 : w.cell? ⟨blk, 0, none⟩ = some (.int .i64 kd)) (c3 : w.cell? ⟨blk, 3, none⟩ = some (.int .i64 k)) (hk : 1 ≤ kd ∧ kd ≤ 8)
    (hQ : ∀ a' w', a'.defers = a.defers → a'.tmps.size = 115 → (∀ j, j ∉ kslots → a'.tmps[j]? = a.tmps[j]?) → a'.tmps[10]? = some (.bool (kfit kd k)) → Ext w w' → Q .normal a' w') :
    (codeAt 4 (Try.f39.body.getD .skip)).wp Try.prog Q a w := by
  have hblk := World.block_lt_of_cell? _ _ c0
  simp only at hblk
  change (Code.region 5 _ true).wp Try.prog Q a w
  refine region_inv' (by kernel_rfl) (by decide +kernel) (KI blk w.heap.size kd k (kfit kd k) a w.drew) ?_ ?_ ?_
  · have hf : ∀ i, (Array.replicate 22 false).getD i false = false := fun i => by simp [Array.getD_eq_getD_getElem?, Array.getElem?_replicate]; split <;> rfl
    refine ⟨fun p hp hl => ?_, hsz, rfl, fun _ _ => rfl, fun hl => ?_, by simpa using c0, by simpa using c3, Ext.refl _, by simp, fun _ => ⟨by simp, hf _, hf _, hf _, hf _⟩, fun hl => ?_⟩
    · change (Array.replicate 22 false).getD p.1 false = true at hl
      rw [hf] at hl
      cases hl
    · change (Array.replicate 22 false).getD 17 false = true at hl
      rw [hf] at hl
      cases hl
    · change (Array.replicate 22 false).getD 0 false = true at hl
      rw [hf] at hl
      cases hl
  · intro L a1 w1 hs hI i o ho hl hd
    have hL : L.size = 22 := hs
    have f5 : a1.tmps[5]? = some (.pointer (some ⟨blk, 0, none⟩)) := (hI.old 5 (by decide)).trans h5
    have hi : i < 22 := (Array.getElem?_eq_some_iff.1 ho).1
    have k0 := hI.c0
    have k3 := hI.c3
    have hdf : ∀ j, j < 22 → L.getD j true = false → L.getD j false = false := fun j hj h => by
      rw [Array.getD_eq_getD_getElem?, Array.getElem?_eq_getElem (by omega)] at h ⊢
      exact h
    match i, ho, hl, hi with
    | 0, ho, hl, _ =>
      obtain rfl := Option.some.inj (show some _ = some o from ho)
      exact hI.make hL (hdf 0 (by omega) hl) (by simpa using hblk)
    | 1, ho, hl, _ =>
      obtain rfl := Option.some.inj (show some _ = some o from ho)
      unfold Oper.wp
      go_simp
      exact hI.put hL (i := 1) (s := 28) (v := .pointer (some ⟨blk, 3, none⟩)) (by simp [ktab]) (by decide) (fun e => absurd e (by decide))
    | 2, ho, hl, _ =>
      obtain rfl := Option.some.inj (show some _ = some o from ho)
      have d1 := hd ⟨1, .data⟩ (by simp) rfl
      have f28 : a1.tmps[28]? = some (.pointer (some ⟨blk, 3, none⟩)) := hI.tb (1, 28, .pointer (some ⟨blk, 3, none⟩)) (by simp [ktab]) d1
      unfold Oper.wp
      go_simp
      exact hI.put hL (i := 2) (s := 29) (v := .int .i64 k) (by simp [ktab]) (by decide) (fun e => absurd e (by decide))
    | 3, ho, hl, _ =>
      obtain rfl := Option.some.inj (show some _ = some o from ho)
      have d2 := hd ⟨2, .data⟩ (by simp) rfl
      have f29 : a1.tmps[29]? = some (.int .i64 k) := hI.tb (2, 29, .int .i64 k) (by simp [ktab]) d2
      unfold Oper.wp
      go_simp
      refine (implWrdOk _ _).mono ?_
      rintro e w' ⟨rfl, rfl⟩
      exact hI.put hL (i := 3) (s := 30) (v := .bool (wrdOk k)) (by simp [ktab]) (by decide) (fun e => absurd e (by decide))
    | 4, ho, hl, _ =>
      obtain rfl := Option.some.inj (show some _ = some o from ho)
      have d0 := hd ⟨0, .data⟩ (by simp) rfl
      have d3 := hd ⟨3, .data⟩ (by simp) rfl
      have f27 : a1.tmps[27]? = some (.map (some w.heap.size)) := hI.tb (0, 27, .map (some w.heap.size)) (by simp [ktab]) d0
      have f30 : a1.tmps[30]? = some (.bool (wrdOk k)) := hI.tb (3, 30, .bool (wrdOk k)) (by simp [ktab]) d3
      obtain ⟨w', hrun, hK⟩ := hI.ins hL (i := 4) (q := 1) (b := wrdOk k) (by simp) (hdf 4 (by omega) hl) d0 (by simpa using hblk)
      unfold Oper.wp
      go_simp
      try (rw [hrun]; exact hK)
    | 5, ho, hl, _ =>
      obtain rfl := Option.some.inj (show some _ = some o from ho)
      unfold Oper.wp
      go_simp
      exact hI.put hL (i := 5) (s := 31) (v := .pointer (some ⟨blk, 3, none⟩)) (by simp [ktab]) (by decide) (fun e => absurd e (by decide))
    | 6, ho, hl, _ =>
      obtain rfl := Option.some.inj (show some _ = some o from ho)
      have d5 := hd ⟨5, .data⟩ (by simp) rfl
      have f31 : a1.tmps[31]? = some (.pointer (some ⟨blk, 3, none⟩)) := hI.tb (5, 31, .pointer (some ⟨blk, 3, none⟩)) (by simp [ktab]) d5
      unfold Oper.wp
      go_simp
      exact hI.put hL (i := 6) (s := 32) (v := .int .i64 k) (by simp [ktab]) (by decide) (fun e => absurd e (by decide))
    | 7, ho, hl, _ =>
      obtain rfl := Option.some.inj (show some _ = some o from ho)
      have d6 := hd ⟨6, .data⟩ (by simp) rfl
      have f32 : a1.tmps[32]? = some (.int .i64 k) := hI.tb (6, 32, .int .i64 k) (by simp [ktab]) d6
      unfold Oper.wp
      go_simp
      refine (implIsReg _ _).mono ?_
      rintro e w' ⟨rfl, rfl⟩
      exact hI.put hL (i := 7) (s := 33) (v := .bool (inB k 0 3)) (by simp [ktab]) (by decide) (fun e => absurd e (by decide))
    | 8, ho, hl, _ =>
      obtain rfl := Option.some.inj (show some _ = some o from ho)
      have d0 := hd ⟨0, .data⟩ (by simp) rfl
      have d7 := hd ⟨7, .data⟩ (by simp) rfl
      have f27 : a1.tmps[27]? = some (.map (some w.heap.size)) := hI.tb (0, 27, .map (some w.heap.size)) (by simp [ktab]) d0
      have f33 : a1.tmps[33]? = some (.bool (inB k 0 3)) := hI.tb (7, 33, .bool (inB k 0 3)) (by simp [ktab]) d7
      obtain ⟨w', hrun, hK⟩ := hI.ins hL (i := 8) (q := 2) (b := inB k 0 3) (by simp) (hdf 8 (by omega) hl) d0 (by simpa using hblk)
      unfold Oper.wp
      go_simp
      try (rw [hrun]; exact hK)
    | 9, ho, hl, _ =>
      obtain rfl := Option.some.inj (show some _ = some o from ho)
      unfold Oper.wp
      go_simp
      exact hI.put hL (i := 9) (s := 34) (v := .pointer (some ⟨blk, 3, none⟩)) (by simp [ktab]) (by decide) (fun e => absurd e (by decide))
    | 10, ho, hl, _ =>
      obtain rfl := Option.some.inj (show some _ = some o from ho)
      have d9 := hd ⟨9, .data⟩ (by simp) rfl
      have f34 : a1.tmps[34]? = some (.pointer (some ⟨blk, 3, none⟩)) := hI.tb (9, 34, .pointer (some ⟨blk, 3, none⟩)) (by simp [ktab]) d9
      unfold Oper.wp
      go_simp
      exact hI.put hL (i := 10) (s := 35) (v := .int .i64 k) (by simp [ktab]) (by decide) (fun e => absurd e (by decide))
    | 11, ho, hl, _ =>
      obtain rfl := Option.some.inj (show some _ = some o from ho)
      have d10 := hd ⟨10, .data⟩ (by simp) rfl
      have f35 : a1.tmps[35]? = some (.int .i64 k) := hI.tb (10, 35, .int .i64 k) (by simp [ktab]) d10
      unfold Oper.wp
      go_simp
      refine (implIsOp _ _).mono ?_
      rintro e w' ⟨rfl, rfl⟩
      exact hI.put hL (i := 11) (s := 36) (v := .bool (inB k 1 5)) (by simp [ktab]) (by decide) (fun e => absurd e (by decide))
    | 12, ho, hl, _ =>
      obtain rfl := Option.some.inj (show some _ = some o from ho)
      have d0 := hd ⟨0, .data⟩ (by simp) rfl
      have d11 := hd ⟨11, .data⟩ (by simp) rfl
      have f27 : a1.tmps[27]? = some (.map (some w.heap.size)) := hI.tb (0, 27, .map (some w.heap.size)) (by simp [ktab]) d0
      have f36 : a1.tmps[36]? = some (.bool (inB k 1 5)) := hI.tb (11, 36, .bool (inB k 1 5)) (by simp [ktab]) d11
      obtain ⟨w', hrun, hK⟩ := hI.ins hL (i := 12) (q := 3) (b := inB k 1 5) (by simp) (hdf 12 (by omega) hl) d0 (by simpa using hblk)
      unfold Oper.wp
      go_simp
      try (rw [hrun]; exact hK)
    | 13, ho, hl, _ =>
      obtain rfl := Option.some.inj (show some _ = some o from ho)
      unfold Oper.wp
      go_simp
      exact hI.put hL (i := 13) (s := 37) (v := .pointer (some ⟨blk, 3, none⟩)) (by simp [ktab]) (by decide) (fun e => absurd e (by decide))
    | 14, ho, hl, _ =>
      obtain rfl := Option.some.inj (show some _ = some o from ho)
      have d13 := hd ⟨13, .data⟩ (by simp) rfl
      have f37 : a1.tmps[37]? = some (.pointer (some ⟨blk, 3, none⟩)) := hI.tb (13, 37, .pointer (some ⟨blk, 3, none⟩)) (by simp [ktab]) d13
      unfold Oper.wp
      go_simp
      exact hI.put hL (i := 14) (s := 38) (v := .int .i64 k) (by simp [ktab]) (by decide) (fun e => absurd e (by decide))
    | 15, ho, hl, _ =>
      obtain rfl := Option.some.inj (show some _ = some o from ho)
      have d14 := hd ⟨14, .data⟩ (by simp) rfl
      have f38 : a1.tmps[38]? = some (.int .i64 k) := hI.tb (14, 38, .int .i64 k) (by simp [ktab]) d14
      unfold Oper.wp
      go_simp
      refine (implIsReg _ _).mono ?_
      rintro e w' ⟨rfl, rfl⟩
      exact hI.put hL (i := 15) (s := 39) (v := .bool (inB k 0 3)) (by simp [ktab]) (by decide) (fun e => absurd e (by decide))
    | 16, ho, hl, _ =>
      obtain rfl := Option.some.inj (show some _ = some o from ho)
      have d0 := hd ⟨0, .data⟩ (by simp) rfl
      have d15 := hd ⟨15, .data⟩ (by simp) rfl
      have f27 : a1.tmps[27]? = some (.map (some w.heap.size)) := hI.tb (0, 27, .map (some w.heap.size)) (by simp [ktab]) d0
      have f39 : a1.tmps[39]? = some (.bool (inB k 0 3)) := hI.tb (15, 39, .bool (inB k 0 3)) (by simp [ktab]) d15
      obtain ⟨w', hrun, hK⟩ := hI.ins hL (i := 16) (q := 8) (b := inB k 0 3) (by simp) (hdf 16 (by omega) hl) d0 (by simpa using hblk)
      unfold Oper.wp
      go_simp
      try (rw [hrun]; exact hK)
    | 17, ho, hl, _ =>
      obtain rfl := Option.some.inj (show some _ = some o from ho)
      have d0 := hd ⟨0, .data⟩ (by simp) rfl
      have d4 := hd ⟨4, .data⟩ (by simp) rfl
      have d8 := hd ⟨8, .data⟩ (by simp) rfl
      have d12 := hd ⟨12, .data⟩ (by simp) rfl
      have d16 := hd ⟨16, .data⟩ (by simp) rfl
      have f27 : a1.tmps[27]? = some (.map (some w.heap.size)) := hI.tb (0, 27, .map (some w.heap.size)) (by simp [ktab]) d0
      unfold Oper.wp
      go_simp
      exact hI.put hL (i := 17) (s := 40) (v := .map (some w.heap.size)) (by simp [ktab]) (by decide) (fun _ => ⟨d4, d8, d12, d16⟩)
    | 18, ho, hl, _ =>
      obtain rfl := Option.some.inj (show some _ = some o from ho)
      unfold Oper.wp
      go_simp
      exact hI.put hL (i := 18) (s := 41) (v := .pointer (some ⟨blk, 0, none⟩)) (by simp [ktab]) (by decide) (fun e => absurd e (by decide))
    | 19, ho, hl, _ =>
      obtain rfl := Option.some.inj (show some _ = some o from ho)
      have d18 := hd ⟨18, .data⟩ (by simp) rfl
      have f41 : a1.tmps[41]? = some (.pointer (some ⟨blk, 0, none⟩)) := hI.tb (18, 41, .pointer (some ⟨blk, 0, none⟩)) (by simp [ktab]) d18
      unfold Oper.wp
      go_simp
      exact hI.put hL (i := 19) (s := 42) (v := .int .i64 kd) (by simp [ktab]) (by decide) (fun e => absurd e (by decide))
    | 20, ho, hl, _ =>
      obtain rfl := Option.some.inj (show some _ = some o from ho)
      have d17 := hd ⟨17, .data⟩ (by simp) rfl
      have d19 := hd ⟨19, .data⟩ (by simp) rfl
      have f40 : a1.tmps[40]? = some (.map (some w.heap.size)) := hI.tb (17, 40, .map (some w.heap.size)) (by simp [ktab]) d17
      have f42 : a1.tmps[42]? = some (.int .i64 kd) := hI.tb (19, 42, .int .i64 kd) (by simp [ktab]) d19
      have l0 : L.getD 0 false = true := by
        cases h : L.getD 0 false
        · have := (hI.pre h).2.1
          rw [(hI.cl d17).1] at this
          cases this
        · rfl
      have hrun : (Instr.lookup 68 (.map (some w.heap.size)) (.int .i64 kd) false).run Try.prog w1 = .ok (.bool (kfit kd k)) w1 := hI.look l0 d17 hk rfl
      unfold Oper.wp
      go_simp
      exact hI.put hL (i := 20) (s := 43) (v := .bool (kfit kd k)) (by simp [ktab]) (by decide) (fun e => absurd e (by decide))
    | 21, ho, hl, _ =>
      obtain rfl := Option.some.inj (show some _ = some o from ho)
      have d20 := hd ⟨20, .data⟩ (by simp) rfl
      have f43 : a1.tmps[43]? = some (.bool (kfit kd k)) := hI.tb (20, 43, .bool (kfit kd k)) (by simp [ktab]) d20
      unfold Oper.wp
      go_simp
      exact hI.put hL (i := 21) (s := 10) (v := .bool (kfit kd k)) (by simp [ktab]) (by decide) (fun e => absurd e (by decide))
    | n + 22, ho, hl, hi => omega
  · intro L a1 w1 hall hI
    exact hQ a1 w1 hI.df hI.sz hI.old (hI.tb (21, 10, _) (by simp [ktab]) (hall 21 (by decide))) ((Ext.refl w).drew.next hI.ex)
end Go.Proofs.Ytcjeeggffeoilaa
