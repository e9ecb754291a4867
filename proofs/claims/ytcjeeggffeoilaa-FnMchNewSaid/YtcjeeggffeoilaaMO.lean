/- A new machine: the contract of the program's MchNew. Conditions: lengths that a machine can hold. -/
import Derived.Test.YtcjeeggffeoilaaMN
namespace Go.Proofs.Ytcjeeggffeoilaa
open Go Go.RowKit
set_option linter.unusedVariables false
set_option linter.unusedSimpArgs false

/-! ### the program's own -/
section
variable {P : Program} {ops : Array Oper} {Q : Exit → Act → World → Prop} {rest : List Oper} {o : Oper} {a : Act} {w : World} {TS TI : TypeId}
theorem copy_ints (ht : P.underlying TS = some (.slice TI)) (hsz : (P.info? TI).map (·.size) = some 1) (hgd : o.guard = none) (d s : Operand) (ho : o.op = .call { callee := .builtin .copy, args := #[d, s], argTypes := #[TS, TS] })
    (lo g n : Nat) (zs : List Int) (hown : OI TI w lo (some ⟨g, 0, none⟩) n zs) (hzn : zs.length = n) (hd : a.eval d = .slice (some ⟨g, 0, none⟩) n n) (A : Option Addr) (k m : Nat) (ws : List Int) (hs : a.eval s = .slice A m k) (hw : RI TI w A ws) (hwm : ws.length = m) (hmn : m ≤ n)
    (h : ∀ r w', OI TI w' lo (some ⟨g, 0, none⟩) n (ws ++ zs.drop m) → Upd (fun b => b = g) w w' → wpList P ops Q rest (a.put o.dst r) w') : wpList P ops Q (o :: rest) a w := by
  subst hwm
  by_cases h0 : ws.length = 0
  · have e0 : ws = [] := List.length_eq_zero_iff.1 h0
    subst e0
    refine wpList_copy_nothing hgd d s TS TS ho TI ht hsz _ _ n n _ k hd hs (by simp) ?_
    exact h _ w hown (Upd.refl _ _)
  · obtain ⟨hl, hr⟩ := hown
    rcases hr with ⟨e, _⟩ | ⟨g', cap, cur, e, hb, hg, hle, hmax, hsize, htake⟩
    · cases e
    · injection e with e1 e2 e3
      injection e1 with e1
      injection e1 with e1
      subst e1 e3
      obtain ⟨b, o', x, rfl, hbw, hx, hcell⟩ := hw.at_ (i := 0) (by omega)
      have hcn : (ws.map (Value.int .i64)).length = ws.length := by simp
      have hcl : cur.toList = zs.map (Value.int .i64) := by rw [← htake, List.take_of_length_le (by rw [Array.length_toList, hsize]; omega)]
      refine wpList_copy_own hgd d s TS TS ho TI ht hsz g 0 n n ⟨b, o', none⟩ ws.length k hd hs cur TI hg (ws.map (Value.int .i64)) (by rw [hcn]; show _ = min _ _; omega) (fun j v hj => ?_) (by rw [hcn, hsize]; omega) (fun v hv => ?_) ?_
      · obtain ⟨b1, o1, e, _, hc⟩ := Row.at_ hw hj
        injection e with e
        rw [e, addr_add]
        exact hc
      · obtain ⟨y, _, rfl⟩ := List.mem_map.1 hv
        rfl
      · refine h _ _ ?_ ⟨rfl, rfl, rfl, by simp [World.setRow], fun i hi hn => setRow_other w g i _ hn⟩
        have hlen : (ws ++ zs.drop ws.length).length = n := by rw [List.length_append, List.length_drop]; omega
        refine ⟨by rw [List.length_map]; omega, .inr ⟨g, n, _, by rw [hlen], hb, setRow_heap w g _ _ TI _ hg, by omega, hmax, ?_, ?_⟩⟩
        · simp [hcl, hcn]
          omega
        · rw [List.take_of_length_le (by first | (simp [hcl]; done) | (simp [hcl]; omega))]
          simp [hcl, hcn]
end

theorem cloneInts_ (A : Option Addr) (k : Nat) (xs : List Int) (w : World) (h : RI 3 w A xs) (hz : A = none → k = 0) (hn : xs.length < 1099511627776) :
    Calls Try.prog 29 #[.slice A xs.length k] w (RetI 3 w xs) := by
  go_enter Try.func29, Try.ntmps29
  go_wp2_with (at_builtin; (refine app_ints Try.underlying23 info_int rfl _ _ rfl w.heap.size none 0 [] (nilI _ _ _) 0 rfl rfl A k xs xs.length rfl rfl h hz xs.length (by omega) hn (Nat.le_refl _) ?_); (intro A' k' w2 ho2 hu2))
  have HO2 := hid ho2
  have HE2 := hid (hu2.ext fun b hb => by obtain ⟨o, s, e⟩ := hb; cases e)
  clear ho2 hu2
  go_wp2
  go_ret
  exact ⟨A', k', by simp, HO2.out, HE2.out⟩
/-- So many noughts, as 'make' lays them. -/
def mk0 (n : Nat) : Array Value := madeCells (Value.int .i64 0).cells (n * 1)
theorem mk0_run (n : Nat) (hn : n ≤ 1000) (w : World) : (Instr.makeSlice 23 (.int .i64 (n : Int)) (.int .i64 (n : Int))).run Try.prog w = .ok (.slice (some ⟨w.heap.size, 0, none⟩) n n) (w.alloc (.cells (mk0 n) 3)) :=
  run_make_rowN (P := Try.prog) 23 3 (.int .i64 0) 1 8 Try.underlying23 info_int .i64 .i64 n (by omega) (by omega) w
theorem mk0_own (n : Nat) (hn : n ≤ 1000) (w : World) : OI 3 (w.alloc (.cells (mk0 n) 3)) w.heap.size (some ⟨w.heap.size, 0, none⟩) n (List.replicate n 0) := by
  have h := own_of_row (lo := w.heap.size) (World.rowIs_made w (.int .i64 0) n 3) (Nat.le_refl _) (by unfold maxLen; omega)
  have e : mk0 n = madeCells #[Value.int .i64 0] n := by unfold mk0; rw [Nat.mul_one]; rfl
  rw [e]
  unfold OI
  rw [List.length_replicate, List.map_replicate]
  have e2 : (List.range n).map (fun _ => Value.int .i64 0) = List.replicate n (Value.int .i64 0) := by
    rw [List.map_const', List.length_range]
  rw [← e2]
  exact h
theorem mk0_at (n : Nat) (hn : n ≤ 1000) (w : World) {g lo : Nat} (hg : g = w.heap.size) (hl : lo ≤ g) : OI 3 (w.alloc (.cells (mk0 n) 3)) lo (some ⟨g, 0, none⟩) n (List.replicate n 0) := by
  subst hg
  exact OI.base (mk0_own n hn w) hl
theorem own_keep {TI : TypeId} {W w' : World} {lo g n : Nat} {xs : List Int} (h : OI TI W lo (some ⟨g, 0, none⟩) n xs) (he : Upd (fun b => b ≠ g) W w') : OI TI w' lo (some ⟨g, 0, none⟩) n xs :=
  own_upd' h he fun b hb e => e (atB_some hb)
theorem own_keepA {TI : TypeId} {W w' : World} {lo n : Nat} {A : Option Addr} {xs : List Int} (h : OI TI W lo A n xs) (he : Upd (fun b => ¬ atB A b) W w') : OI TI w' lo A n xs :=
  own_upd' h he fun b hb e => e hb
theorem Upd.setN {A : Option Addr} {w a : World} {lo hi : Nat} (h : Upd (fun b => ¬ atB A b) w a) (hA : ∀ b, atB A b → lo ≤ b ∧ b < hi) {p : Addr} (hp : p.block < lo ∨ hi ≤ p.block) (u : Value) : Upd (fun b => ¬ atB A b) w (a.setCell p u) :=
  h.set (.inl fun hb => by have := hA _ hb; omega) u
set_option maxHeartbeats 4000000 in
theorem implMchNew (A A' : Option Addr) (k k' : Nat) (ws is : List Int) (w : World) (h : RI 3 w A ws) (h' : RI 3 w A' is) (hz' : A' = none → k' = 0) (hn : ws.length ≤ 1048576) (hn' : is.length ≤ 1048576) :
    Calls Try.prog 7 #[.slice A ws.length k, .slice A' is.length k'] w (RetMs 3 w (newM ws is)) := by
  have hmk4 : ∀ w : World, (Instr.makeSlice 23 (.int .i64 4) (.int .i64 4)).run Try.prog w = .ok (.slice (some ⟨w.heap.size, 0, none⟩) 4 4) (w.alloc (.cells (mk0 4) 3)) := mk0_run 4 (by omega)
  have hmk64 : ∀ w : World, (Instr.makeSlice 23 (.int .i64 64) (.int .i64 64)).run Try.prog w = .ok (.slice (some ⟨w.heap.size, 0, none⟩) 64 64) (w.alloc (.cells (mk0 64) 3)) := mk0_run 64 (by omega)
  cases b1 : decide ((64 : Int) < ws.length)
  rotate_left
  · have E := hid (newM_no (ws := ws) (is := is) (by unfold newOk; rw [b1]; rfl))
    go_enter Try.func7, Try.ntmps7
    go_wp2
    refine bodyPost_ret (v := .agg #[.slice none 0 0, .int .i64 0, .slice none 0 0, .int .i64 0, .bool false, .bool false, .int .i64 0, .slice none 0 0, .slice none 0 0, .int .i64 0]) (by simp [results, Try.results7, go_sem, *]) rfl ⟨⟨none, 0, [], 0, none, 0, [], 0, false, false, 0, none, 0, [], none, 0, [], 0⟩, rfl, E.out.symm, ⟨nilI _ _ _, nilI _ _ _, nilI _ _ _, nilI _ _ _⟩, fun b => ⟨fun h => absurd h (not_atB b), fun h => absurd h (not_atB b), fun h => absurd h (not_atB b), not_atB b⟩, (by repeat (first | with_reducible assumption | with_reducible exact Ext.refl _ | with_reducible apply Ext.drewN | with_reducible apply Ext.drew | with_reducible apply Ext.alloc | with_reducible refine Ext.set ?_ (by first | (simp; done) | (simp; omega)) _ | with_reducible refine Ext.next ?_ (by with_reducible assumption)))⟩
  cases b2 : wordsB ws
  · have E := hid (newM_no (ws := ws) (is := is) (by unfold newOk; rw [b2]; simp))
    have B2 := hid b2
    clear b2
    go_enter Try.func7, Try.ntmps7
    go_wp2_with fail
    refine (implWordsOk _ _ ws _ (h.ext (by repeat (first | with_reducible assumption | with_reducible exact Ext.refl _ | with_reducible apply Ext.drewN | with_reducible apply Ext.drew | with_reducible apply Ext.alloc | with_reducible refine Ext.set ?_ (by first | (simp; done) | (simp; omega)) _ | with_reducible refine Ext.next ?_ (by with_reducible assumption)))) (by omega)).mono ?_
    rintro e w' ⟨rfl, rfl⟩
    rw [B2.out]
    go_wp2
    refine bodyPost_ret (v := .agg #[.slice none 0 0, .int .i64 0, .slice none 0 0, .int .i64 0, .bool false, .bool false, .int .i64 0, .slice none 0 0, .slice none 0 0, .int .i64 0]) (by simp [results, Try.results7, go_sem, *]) rfl ⟨⟨none, 0, [], 0, none, 0, [], 0, false, false, 0, none, 0, [], none, 0, [], 0⟩, rfl, E.out.symm, ⟨nilI _ _ _, nilI _ _ _, nilI _ _ _, nilI _ _ _⟩, fun b => ⟨fun h => absurd h (not_atB b), fun h => absurd h (not_atB b), fun h => absurd h (not_atB b), not_atB b⟩, (by repeat (first | with_reducible assumption | with_reducible exact Ext.refl _ | with_reducible apply Ext.drewN | with_reducible apply Ext.drew | with_reducible apply Ext.alloc | with_reducible refine Ext.set ?_ (by first | (simp; done) | (simp; omega)) _ | with_reducible refine Ext.next ?_ (by with_reducible assumption)))⟩
  cases b3 : wordsB is
  · have E := hid (newM_no (ws := ws) (is := is) (by unfold newOk; rw [b3]; simp))
    have B2 := hid b2
    have B3 := hid b3
    clear b2 b3
    go_enter Try.func7, Try.ntmps7
    go_wp2_with fail
    refine (implWordsOk _ _ ws _ (h.ext (by repeat (first | with_reducible assumption | with_reducible exact Ext.refl _ | with_reducible apply Ext.drewN | with_reducible apply Ext.drew | with_reducible apply Ext.alloc | with_reducible refine Ext.set ?_ (by first | (simp; done) | (simp; omega)) _ | with_reducible refine Ext.next ?_ (by with_reducible assumption)))) (by omega)).mono ?_
    rintro e w' ⟨rfl, rfl⟩
    rw [B2.out]
    go_wp2_with fail
    refine (implWordsOk _ _ is _ (h'.ext (by repeat (first | with_reducible assumption | with_reducible exact Ext.refl _ | with_reducible apply Ext.drewN | with_reducible apply Ext.drew | with_reducible apply Ext.alloc | with_reducible refine Ext.set ?_ (by first | (simp; done) | (simp; omega)) _ | with_reducible refine Ext.next ?_ (by with_reducible assumption)))) (by omega)).mono ?_
    rintro e w' ⟨rfl, rfl⟩
    rw [B3.out]
    go_wp2
    refine bodyPost_ret (v := .agg #[.slice none 0 0, .int .i64 0, .slice none 0 0, .int .i64 0, .bool false, .bool false, .int .i64 0, .slice none 0 0, .slice none 0 0, .int .i64 0]) (by simp [results, Try.results7, go_sem, *]) rfl ⟨⟨none, 0, [], 0, none, 0, [], 0, false, false, 0, none, 0, [], none, 0, [], 0⟩, rfl, E.out.symm, ⟨nilI _ _ _, nilI _ _ _, nilI _ _ _, nilI _ _ _⟩, fun b => ⟨fun h => absurd h (not_atB b), fun h => absurd h (not_atB b), fun h => absurd h (not_atB b), not_atB b⟩, (by repeat (first | with_reducible assumption | with_reducible exact Ext.refl _ | with_reducible apply Ext.drewN | with_reducible apply Ext.drew | with_reducible apply Ext.alloc | with_reducible refine Ext.set ?_ (by first | (simp; done) | (simp; omega)) _ | with_reducible refine Ext.next ?_ (by with_reducible assumption)))⟩
  have E := hid (newM_yes (ws := ws) (is := is) (by unfold newOk; rw [b1, b2, b3]; rfl))
  have hw64 : ws.length ≤ 64 := by have := of_decide_eq_false b1; omega
  have B2 := hid b2
  have B3 := hid b3
  clear b2 b3
  go_enter Try.func7, Try.ntmps7
  go_wp2_with fail
  refine (implWordsOk _ _ ws _ (h.ext (by repeat (first | with_reducible assumption | with_reducible exact Ext.refl _ | with_reducible apply Ext.drewN | with_reducible apply Ext.drew | with_reducible apply Ext.alloc | with_reducible refine Ext.set ?_ (by first | (simp; done) | (simp; omega)) _ | with_reducible refine Ext.next ?_ (by with_reducible assumption)))) (by omega)).mono ?_
  rintro e w' ⟨rfl, rfl⟩
  rw [B2.out]
  go_wp2_with fail
  refine (implWordsOk _ _ is _ (h'.ext (by repeat (first | with_reducible assumption | with_reducible exact Ext.refl _ | with_reducible apply Ext.drewN | with_reducible apply Ext.drew | with_reducible apply Ext.alloc | with_reducible refine Ext.set ?_ (by first | (simp; done) | (simp; omega)) _ | with_reducible refine Ext.next ?_ (by with_reducible assumption)))) (by omega)).mono ?_
  rintro e w' ⟨rfl, rfl⟩
  rw [B3.out]
  go_upto_region 3 with fail
  go_cut [5, 20, 21] (fun u s0 s2 wx => ∃ (p b0 b2 : Nat) (A7 : Option Addr) (k7 : Nat), u = .pointer (some ⟨p, 0, none⟩) ∧ s0 = .slice (some ⟨b0, 0, none⟩) 4 4 ∧ s2 = .slice (some ⟨b2, 0, none⟩) 64 64 ∧ wx.cell? ⟨p, 0, none⟩ = some (.slice (some ⟨b0, 0, none⟩) 4 4) ∧ wx.cell? ⟨p, 1, none⟩ = some (.int .i64 0) ∧ wx.cell? ⟨p, 2, none⟩ = some (.slice (some ⟨b2, 0, none⟩) 64 64) ∧ wx.cell? ⟨p, 3, none⟩ = some (.int .i64 0) ∧ wx.cell? ⟨p, 4, none⟩ = some (.bool false) ∧ wx.cell? ⟨p, 5, none⟩ = some (.bool false) ∧ wx.cell? ⟨p, 6, none⟩ = some (.int .i64 0) ∧ wx.cell? ⟨p, 7, none⟩ = some (.slice A7 is.length k7) ∧ wx.cell? ⟨p, 8, none⟩ = some (.slice none 0 0) ∧ wx.cell? ⟨p, 9, none⟩ = some (.int .i64 0) ∧ OI 3 wx (w.heap.size + 1) (some ⟨b0, 0, none⟩) 4 [0, 0, 0, 0] ∧ OI 3 wx (w.heap.size + 1) (some ⟨b2, 0, none⟩) 64 (List.replicate 64 0) ∧ OI 3 wx (w.heap.size + 1) A7 k7 is ∧ b0 ≠ b2 ∧ (∀ b, atB A7 b → b ≠ b0 ∧ b ≠ b2) ∧ p ≠ b2 ∧ Ext (w.alloc (.cells #[.slice none 0 0, .int .i64 0, .slice none 0 0, .int .i64 0, .bool false, .bool false, .int .i64 0, .slice none 0 0, .slice none 0 0, .int .i64 0] 27)) wx)
  case first =>
    go_wp2
    have c0 : (w.alloc (.cells #[.slice none 0 0, .int .i64 0, .slice none 0 0, .int .i64 0, .bool false, .bool false, .int .i64 0, .slice none 0 0, .slice none 0 0, .int .i64 0] 27)).cell? ⟨w.heap.size, 0, none⟩ = some (.slice none 0 0) := by go_simp
    go_region_held3 (fun _ => True) (trivial) (first
      | (go_at_call 29; (refine (cloneInts_ _ _ is _ (h'.ext (by repeat (first | with_reducible assumption | with_reducible exact Ext.refl _ | with_reducible apply Ext.drewN | with_reducible apply Ext.drew | with_reducible apply Ext.alloc | with_reducible refine Ext.set ?_ (by first | (simp; done) | (simp; omega)) _ | with_reducible refine Ext.next ?_ (by with_reducible assumption)))) hz' (by omega)).mono ?_); (rintro e w2 ⟨A7, k7, rfl, ho2, hw2⟩); (obtain ⟨hc2, hf2⟩ := bcell_ hw2); (have hs2 := hw2.size); (try simp at hs2); (try (have lt1 : w.heap.size < w2.heap.size := by omega)); (try (have lt2 : w.heap.size + 1 < w2.heap.size := by omega)); (try (have lt3 : w.heap.size + 1 + 1 < w2.heap.size := by omega)); (try (have lt4 : w.heap.size + 1 + 1 + 1 < w2.heap.size := by omega))))
    all_goals
      have HO := hid ho2
      go_wp2
      go_meet
      refine ⟨_, _, _, A7, k7, rfl, rfl, rfl, ?_, ?_, ?_, ?_, ?_, ?_, ?_, ?_, ?_, ?_, ?_, ?_, ?_, ?_, ?_, ?_, ?_⟩
      · go_simp
      · go_simp
      · go_simp
      · go_simp
      · go_simp
      · go_simp
      · go_simp
      · go_simp
      · go_simp
      · go_simp
      · refine own_keep (mk0_at 4 (by omega) _ ?_ ?_) (by repeat (first | with_reducible assumption | with_reducible exact Upd.refl _ _ | with_reducible apply Upd.drewN | with_reducible apply Upd.drew | with_reducible apply Upd.alloc | with_reducible refine Upd.set ?_ (Or.inl (by show _ ≠ _; first | (simp; done) | omega | (simp; omega))) _ | with_reducible refine Upd.next ?_ (Upd.of_ext (by with_reducible assumption))))
        · (first | (simp; done) | omega | (simp; omega))
        · (first | (simp; done) | omega | (simp; omega))
      · refine own_keep (mk0_at 64 (by omega) _ ?_ ?_) (by repeat (first | with_reducible assumption | with_reducible exact Upd.refl _ _ | with_reducible apply Upd.drewN | with_reducible apply Upd.drew | with_reducible apply Upd.alloc | with_reducible refine Upd.set ?_ (Or.inl (by show _ ≠ _; first | (simp; done) | omega | (simp; omega))) _ | with_reducible refine Upd.next ?_ (Upd.of_ext (by with_reducible assumption))))
        · (first | (simp; done) | omega | (simp; omega))
        · (first | (simp; done) | omega | (simp; omega))
      · have hA7 := fun b (hb : atB A7 b) => own_atB HO.out hb
        refine OI.base (own_keepA HO.out (by repeat (first | with_reducible assumption | with_reducible exact Upd.refl _ _ | with_reducible apply Upd.drewN | with_reducible apply Upd.drew | with_reducible apply Upd.alloc | with_reducible refine Upd.setN ?_ hA7 (by simp only; first | omega | (left; simp; done) | (left; simp; omega) | (right; simp; done) | (right; simp; omega)) _ | with_reducible refine Upd.next ?_ (Upd.of_ext (by with_reducible assumption))))) ?_
        · (first | (simp; done) | omega | (simp; omega))
      · (first | (simp; done) | omega | (simp; omega))
      · exact fun b hb => by have := own_atB HO.out hb; (try simp at this); omega
      · (first | (simp; done) | omega | (simp; omega))
      · exact (by repeat (first | with_reducible assumption | with_reducible exact Ext.refl _ | with_reducible apply Ext.drewN | with_reducible apply Ext.drew | with_reducible apply Ext.alloc | with_reducible refine Ext.set ?_ (by first | (simp; done) | (simp; omega)) _ | with_reducible refine Ext.next ?_ (by with_reducible assumption)))
  case rest =>
    obtain ⟨p, b0, b2, A7, k7, rfl, rfl, rfl, p0, p1, p2, p3, p4, p5, p6, p7, p8, p9, o0, o2, o7, hne, hd7, hp2, hext⟩ := hcut
    have lp := World.block_lt_of_cell? _ _ p0
    simp only at lp
    have hz0 : w.heap.size < wc.heap.size := by have := hext.size; simp at this; omega
    have HEX : Hid (Ext w wc) := hid (by repeat (first | with_reducible assumption | with_reducible exact Ext.refl _ | with_reducible apply Ext.drewN | with_reducible apply Ext.drew | with_reducible apply Ext.alloc | with_reducible refine Ext.set ?_ (by first | (simp; done) | (simp; omega)) _ | with_reducible refine Ext.next ?_ (by with_reducible assumption)))
    have hR := h.ext HEX.out
    have z0 : wc.cell? ⟨w.heap.size, 0, none⟩ = some (.slice none 0 0) := (hext.cell (p := ⟨w.heap.size, 0, none⟩) (by simp)).trans (by go_simp)
    have z1 : wc.cell? ⟨w.heap.size, 1, none⟩ = some (.int .i64 0) := (hext.cell (p := ⟨w.heap.size, 1, none⟩) (by simp)).trans (by go_simp)
    have z2 : wc.cell? ⟨w.heap.size, 2, none⟩ = some (.slice none 0 0) := (hext.cell (p := ⟨w.heap.size, 2, none⟩) (by simp)).trans (by go_simp)
    have z3 : wc.cell? ⟨w.heap.size, 3, none⟩ = some (.int .i64 0) := (hext.cell (p := ⟨w.heap.size, 3, none⟩) (by simp)).trans (by go_simp)
    have z4 : wc.cell? ⟨w.heap.size, 4, none⟩ = some (.bool false) := (hext.cell (p := ⟨w.heap.size, 4, none⟩) (by simp)).trans (by go_simp)
    have z5 : wc.cell? ⟨w.heap.size, 5, none⟩ = some (.bool false) := (hext.cell (p := ⟨w.heap.size, 5, none⟩) (by simp)).trans (by go_simp)
    have z6 : wc.cell? ⟨w.heap.size, 6, none⟩ = some (.int .i64 0) := (hext.cell (p := ⟨w.heap.size, 6, none⟩) (by simp)).trans (by go_simp)
    have z7 : wc.cell? ⟨w.heap.size, 7, none⟩ = some (.slice none 0 0) := (hext.cell (p := ⟨w.heap.size, 7, none⟩) (by simp)).trans (by go_simp)
    have z8 : wc.cell? ⟨w.heap.size, 8, none⟩ = some (.slice none 0 0) := (hext.cell (p := ⟨w.heap.size, 8, none⟩) (by simp)).trans (by go_simp)
    have z9 : wc.cell? ⟨w.heap.size, 9, none⟩ = some (.int .i64 0) := (hext.cell (p := ⟨w.heap.size, 9, none⟩) (by simp)).trans (by go_simp)
    have zf : ∀ o, wc.frozen? ⟨w.heap.size, o, none⟩ = false := fun o => (hext.frozen (p := ⟨w.heap.size, o, none⟩) (by simp)).trans (by go_simp)
    have hb2 := (own_atB o2 ⟨0, none, rfl⟩).1
    have hwb : w.heap.size ≠ b2 := by omega
    go_wp2_with (((refine copy_ints Try.underlying23 (by kernel_rfl) rfl _ _ rfl (w.heap.size + 1) b2 64 (List.replicate 64 0) o2 (by simp) rfl A k ws.length ws rfl hR rfl (by omega) ?_)); (intro r w5 ho5 hu5); (have q0 : w5.cell? ⟨p, 0, none⟩ = some (.slice (some ⟨b0, 0, none⟩) 4 4) := (hu5.cell (p := ⟨p, 0, none⟩) lp (fun e => hp2 e)).trans p0); (have q1 : w5.cell? ⟨p, 1, none⟩ = some (.int .i64 0) := (hu5.cell (p := ⟨p, 1, none⟩) lp (fun e => hp2 e)).trans p1); (have q2 : w5.cell? ⟨p, 2, none⟩ = some (.slice (some ⟨b2, 0, none⟩) 64 64) := (hu5.cell (p := ⟨p, 2, none⟩) lp (fun e => hp2 e)).trans p2); (have q3 : w5.cell? ⟨p, 3, none⟩ = some (.int .i64 0) := (hu5.cell (p := ⟨p, 3, none⟩) lp (fun e => hp2 e)).trans p3); (have q4 : w5.cell? ⟨p, 4, none⟩ = some (.bool false) := (hu5.cell (p := ⟨p, 4, none⟩) lp (fun e => hp2 e)).trans p4); (have q5 : w5.cell? ⟨p, 5, none⟩ = some (.bool false) := (hu5.cell (p := ⟨p, 5, none⟩) lp (fun e => hp2 e)).trans p5); (have q6 : w5.cell? ⟨p, 6, none⟩ = some (.int .i64 0) := (hu5.cell (p := ⟨p, 6, none⟩) lp (fun e => hp2 e)).trans p6); (have q7 : w5.cell? ⟨p, 7, none⟩ = some (.slice A7 is.length k7) := (hu5.cell (p := ⟨p, 7, none⟩) lp (fun e => hp2 e)).trans p7); (have q8 : w5.cell? ⟨p, 8, none⟩ = some (.slice none 0 0) := (hu5.cell (p := ⟨p, 8, none⟩) lp (fun e => hp2 e)).trans p8); (have q9 : w5.cell? ⟨p, 9, none⟩ = some (.int .i64 0) := (hu5.cell (p := ⟨p, 9, none⟩) lp (fun e => hp2 e)).trans p9); (have r0 : w5.cell? ⟨w.heap.size, 0, none⟩ = some (.slice none 0 0) := (hu5.cell (p := ⟨w.heap.size, 0, none⟩) hz0 (fun e => hwb e)).trans z0); (have r1 : w5.cell? ⟨w.heap.size, 1, none⟩ = some (.int .i64 0) := (hu5.cell (p := ⟨w.heap.size, 1, none⟩) hz0 (fun e => hwb e)).trans z1); (have r2 : w5.cell? ⟨w.heap.size, 2, none⟩ = some (.slice none 0 0) := (hu5.cell (p := ⟨w.heap.size, 2, none⟩) hz0 (fun e => hwb e)).trans z2); (have r3 : w5.cell? ⟨w.heap.size, 3, none⟩ = some (.int .i64 0) := (hu5.cell (p := ⟨w.heap.size, 3, none⟩) hz0 (fun e => hwb e)).trans z3); (have r4 : w5.cell? ⟨w.heap.size, 4, none⟩ = some (.bool false) := (hu5.cell (p := ⟨w.heap.size, 4, none⟩) hz0 (fun e => hwb e)).trans z4); (have r5 : w5.cell? ⟨w.heap.size, 5, none⟩ = some (.bool false) := (hu5.cell (p := ⟨w.heap.size, 5, none⟩) hz0 (fun e => hwb e)).trans z5); (have r6 : w5.cell? ⟨w.heap.size, 6, none⟩ = some (.int .i64 0) := (hu5.cell (p := ⟨w.heap.size, 6, none⟩) hz0 (fun e => hwb e)).trans z6); (have r7 : w5.cell? ⟨w.heap.size, 7, none⟩ = some (.slice none 0 0) := (hu5.cell (p := ⟨w.heap.size, 7, none⟩) hz0 (fun e => hwb e)).trans z7); (have r8 : w5.cell? ⟨w.heap.size, 8, none⟩ = some (.slice none 0 0) := (hu5.cell (p := ⟨w.heap.size, 8, none⟩) hz0 (fun e => hwb e)).trans z8); (have r9 : w5.cell? ⟨w.heap.size, 9, none⟩ = some (.int .i64 0) := (hu5.cell (p := ⟨w.heap.size, 9, none⟩) hz0 (fun e => hwb e)).trans z9); (have rf : ∀ o, w5.frozen? ⟨w.heap.size, o, none⟩ = false := fun o => (hu5.frozen (p := ⟨w.heap.size, o, none⟩) hz0 (fun e => hwb e)).trans (zf o)); (have HO5 := hid ho5); (have HU5 := hid hu5); (have hs5 := hu5.size); (have hz5 : w.heap.size < w5.heap.size := Nat.lt_of_lt_of_le hz0 hs5); (go_loud (have HE5 : Hid (Ext w w5) := hid (((Upd.of_ext (S := fun _ => False) HEX.out).far2 hu5 (fun b hb => by have e : b = b2 := hb; omega)).ext (fun b hb => hb.elim)))); clear ho5 hu5)
    all_goals
      have hpl := padM_length hw64
      have hpe : ws ++ (List.replicate 64 (0 : Int)).drop ws.length = padM ws := by rw [List.drop_replicate]; rfl
      rw [hpe] at HO5
      have hX := HE5.out
      clear q0 q1 q2 q3 q4 q5 q6 q7 q8 q9 p0 p1 p2 p3 p4 p5 p6 p7 p8 p9 z0 z1 z2 z3 z4 z5 z6 z7 z8 z9 zf hmk4 hmk64
      have t0 : ((((((((((w5.setCell ⟨w.heap.size, 0, none⟩ (.slice (some ⟨b0, 0, none⟩) 4 4)).setCell ⟨w.heap.size, 1, none⟩ (.int .i64 0)).setCell ⟨w.heap.size, 2, none⟩ (.slice (some ⟨b2, 0, none⟩) 64 64)).setCell ⟨w.heap.size, 3, none⟩ (.int .i64 0)).setCell ⟨w.heap.size, 4, none⟩ (.bool false)).setCell ⟨w.heap.size, 5, none⟩ (.bool false)).setCell ⟨w.heap.size, 6, none⟩ (.int .i64 0)).setCell ⟨w.heap.size, 7, none⟩ (.slice A7 is.length k7)).setCell ⟨w.heap.size, 8, none⟩ (.slice none 0 0)).setCell ⟨w.heap.size, 9, none⟩ (.int .i64 0)).cell? ⟨w.heap.size, 0, none⟩ = some (.slice (some ⟨b0, 0, none⟩) 4 4) := by go_simp
      have t1 : ((((((((((w5.setCell ⟨w.heap.size, 0, none⟩ (.slice (some ⟨b0, 0, none⟩) 4 4)).setCell ⟨w.heap.size, 1, none⟩ (.int .i64 0)).setCell ⟨w.heap.size, 2, none⟩ (.slice (some ⟨b2, 0, none⟩) 64 64)).setCell ⟨w.heap.size, 3, none⟩ (.int .i64 0)).setCell ⟨w.heap.size, 4, none⟩ (.bool false)).setCell ⟨w.heap.size, 5, none⟩ (.bool false)).setCell ⟨w.heap.size, 6, none⟩ (.int .i64 0)).setCell ⟨w.heap.size, 7, none⟩ (.slice A7 is.length k7)).setCell ⟨w.heap.size, 8, none⟩ (.slice none 0 0)).setCell ⟨w.heap.size, 9, none⟩ (.int .i64 0)).cell? ⟨w.heap.size, 1, none⟩ = some (.int .i64 0) := by go_simp
      have t2 : ((((((((((w5.setCell ⟨w.heap.size, 0, none⟩ (.slice (some ⟨b0, 0, none⟩) 4 4)).setCell ⟨w.heap.size, 1, none⟩ (.int .i64 0)).setCell ⟨w.heap.size, 2, none⟩ (.slice (some ⟨b2, 0, none⟩) 64 64)).setCell ⟨w.heap.size, 3, none⟩ (.int .i64 0)).setCell ⟨w.heap.size, 4, none⟩ (.bool false)).setCell ⟨w.heap.size, 5, none⟩ (.bool false)).setCell ⟨w.heap.size, 6, none⟩ (.int .i64 0)).setCell ⟨w.heap.size, 7, none⟩ (.slice A7 is.length k7)).setCell ⟨w.heap.size, 8, none⟩ (.slice none 0 0)).setCell ⟨w.heap.size, 9, none⟩ (.int .i64 0)).cell? ⟨w.heap.size, 2, none⟩ = some (.slice (some ⟨b2, 0, none⟩) 64 64) := by go_simp
      have t3 : ((((((((((w5.setCell ⟨w.heap.size, 0, none⟩ (.slice (some ⟨b0, 0, none⟩) 4 4)).setCell ⟨w.heap.size, 1, none⟩ (.int .i64 0)).setCell ⟨w.heap.size, 2, none⟩ (.slice (some ⟨b2, 0, none⟩) 64 64)).setCell ⟨w.heap.size, 3, none⟩ (.int .i64 0)).setCell ⟨w.heap.size, 4, none⟩ (.bool false)).setCell ⟨w.heap.size, 5, none⟩ (.bool false)).setCell ⟨w.heap.size, 6, none⟩ (.int .i64 0)).setCell ⟨w.heap.size, 7, none⟩ (.slice A7 is.length k7)).setCell ⟨w.heap.size, 8, none⟩ (.slice none 0 0)).setCell ⟨w.heap.size, 9, none⟩ (.int .i64 0)).cell? ⟨w.heap.size, 3, none⟩ = some (.int .i64 0) := by go_simp
      have t4 : ((((((((((w5.setCell ⟨w.heap.size, 0, none⟩ (.slice (some ⟨b0, 0, none⟩) 4 4)).setCell ⟨w.heap.size, 1, none⟩ (.int .i64 0)).setCell ⟨w.heap.size, 2, none⟩ (.slice (some ⟨b2, 0, none⟩) 64 64)).setCell ⟨w.heap.size, 3, none⟩ (.int .i64 0)).setCell ⟨w.heap.size, 4, none⟩ (.bool false)).setCell ⟨w.heap.size, 5, none⟩ (.bool false)).setCell ⟨w.heap.size, 6, none⟩ (.int .i64 0)).setCell ⟨w.heap.size, 7, none⟩ (.slice A7 is.length k7)).setCell ⟨w.heap.size, 8, none⟩ (.slice none 0 0)).setCell ⟨w.heap.size, 9, none⟩ (.int .i64 0)).cell? ⟨w.heap.size, 4, none⟩ = some (.bool false) := by go_simp
      have t5 : ((((((((((w5.setCell ⟨w.heap.size, 0, none⟩ (.slice (some ⟨b0, 0, none⟩) 4 4)).setCell ⟨w.heap.size, 1, none⟩ (.int .i64 0)).setCell ⟨w.heap.size, 2, none⟩ (.slice (some ⟨b2, 0, none⟩) 64 64)).setCell ⟨w.heap.size, 3, none⟩ (.int .i64 0)).setCell ⟨w.heap.size, 4, none⟩ (.bool false)).setCell ⟨w.heap.size, 5, none⟩ (.bool false)).setCell ⟨w.heap.size, 6, none⟩ (.int .i64 0)).setCell ⟨w.heap.size, 7, none⟩ (.slice A7 is.length k7)).setCell ⟨w.heap.size, 8, none⟩ (.slice none 0 0)).setCell ⟨w.heap.size, 9, none⟩ (.int .i64 0)).cell? ⟨w.heap.size, 5, none⟩ = some (.bool false) := by go_simp
      have t6 : ((((((((((w5.setCell ⟨w.heap.size, 0, none⟩ (.slice (some ⟨b0, 0, none⟩) 4 4)).setCell ⟨w.heap.size, 1, none⟩ (.int .i64 0)).setCell ⟨w.heap.size, 2, none⟩ (.slice (some ⟨b2, 0, none⟩) 64 64)).setCell ⟨w.heap.size, 3, none⟩ (.int .i64 0)).setCell ⟨w.heap.size, 4, none⟩ (.bool false)).setCell ⟨w.heap.size, 5, none⟩ (.bool false)).setCell ⟨w.heap.size, 6, none⟩ (.int .i64 0)).setCell ⟨w.heap.size, 7, none⟩ (.slice A7 is.length k7)).setCell ⟨w.heap.size, 8, none⟩ (.slice none 0 0)).setCell ⟨w.heap.size, 9, none⟩ (.int .i64 0)).cell? ⟨w.heap.size, 6, none⟩ = some (.int .i64 0) := by go_simp
      have t7 : ((((((((((w5.setCell ⟨w.heap.size, 0, none⟩ (.slice (some ⟨b0, 0, none⟩) 4 4)).setCell ⟨w.heap.size, 1, none⟩ (.int .i64 0)).setCell ⟨w.heap.size, 2, none⟩ (.slice (some ⟨b2, 0, none⟩) 64 64)).setCell ⟨w.heap.size, 3, none⟩ (.int .i64 0)).setCell ⟨w.heap.size, 4, none⟩ (.bool false)).setCell ⟨w.heap.size, 5, none⟩ (.bool false)).setCell ⟨w.heap.size, 6, none⟩ (.int .i64 0)).setCell ⟨w.heap.size, 7, none⟩ (.slice A7 is.length k7)).setCell ⟨w.heap.size, 8, none⟩ (.slice none 0 0)).setCell ⟨w.heap.size, 9, none⟩ (.int .i64 0)).cell? ⟨w.heap.size, 7, none⟩ = some (.slice A7 is.length k7) := by go_simp
      have t8 : ((((((((((w5.setCell ⟨w.heap.size, 0, none⟩ (.slice (some ⟨b0, 0, none⟩) 4 4)).setCell ⟨w.heap.size, 1, none⟩ (.int .i64 0)).setCell ⟨w.heap.size, 2, none⟩ (.slice (some ⟨b2, 0, none⟩) 64 64)).setCell ⟨w.heap.size, 3, none⟩ (.int .i64 0)).setCell ⟨w.heap.size, 4, none⟩ (.bool false)).setCell ⟨w.heap.size, 5, none⟩ (.bool false)).setCell ⟨w.heap.size, 6, none⟩ (.int .i64 0)).setCell ⟨w.heap.size, 7, none⟩ (.slice A7 is.length k7)).setCell ⟨w.heap.size, 8, none⟩ (.slice none 0 0)).setCell ⟨w.heap.size, 9, none⟩ (.int .i64 0)).cell? ⟨w.heap.size, 8, none⟩ = some (.slice none 0 0) := by go_simp
      have t9 : ((((((((((w5.setCell ⟨w.heap.size, 0, none⟩ (.slice (some ⟨b0, 0, none⟩) 4 4)).setCell ⟨w.heap.size, 1, none⟩ (.int .i64 0)).setCell ⟨w.heap.size, 2, none⟩ (.slice (some ⟨b2, 0, none⟩) 64 64)).setCell ⟨w.heap.size, 3, none⟩ (.int .i64 0)).setCell ⟨w.heap.size, 4, none⟩ (.bool false)).setCell ⟨w.heap.size, 5, none⟩ (.bool false)).setCell ⟨w.heap.size, 6, none⟩ (.int .i64 0)).setCell ⟨w.heap.size, 7, none⟩ (.slice A7 is.length k7)).setCell ⟨w.heap.size, 8, none⟩ (.slice none 0 0)).setCell ⟨w.heap.size, 9, none⟩ (.int .i64 0)).cell? ⟨w.heap.size, 9, none⟩ = some (.int .i64 0) := by go_simp
      refine bodyPost_ret (v := .agg #[.slice (some ⟨b0, 0, none⟩) 4 4, .int .i64 0, .slice (some ⟨b2, 0, none⟩) 64 64, .int .i64 0, .bool false, .bool false, .int .i64 0, .slice A7 is.length k7, .slice none 0 0, .int .i64 0]) (by simp [results, Try.results7, go_sem, *]) rfl ⟨⟨some ⟨b0, 0, none⟩, 4, [0, 0, 0, 0], 0, some ⟨b2, 0, none⟩, 64, padM ws, 0, false, false, 0, A7, k7, is, none, 0, [], 0⟩, ?_, E.out.symm, ⟨?_, ?_, ?_, nilI _ _ _⟩, ?_, (by repeat (first | with_reducible assumption | with_reducible exact Ext.refl _ | with_reducible apply Ext.drewN | with_reducible apply Ext.drew | with_reducible apply Ext.alloc | with_reducible refine Ext.set ?_ (by first | (simp; done) | (simp; omega)) _ | with_reducible refine Ext.next ?_ (by with_reducible assumption)))⟩
      · simp only [Mc.val, Mc.cells, hpl]
        rfl
      · exact OI.base (own_upd' (own_upd' o0 HU5.out (fun b hb e => by have := atB_some hb; have e : b = b2 := e; omega)) (S := fun b => b = w.heap.size) (by repeat (first | with_reducible assumption | with_reducible exact Upd.refl _ _ | with_reducible refine Upd.set ?_ (by first | (left; simp; done) | (left; omega)) _ | with_reducible refine Upd.next ?_ (Upd.of_ext (by with_reducible assumption)))) (fun b hb e => by have := (own_atB o0 hb).1; omega)) (by omega)
      · exact OI.base (own_upd' HO5.out (S := fun b => b = w.heap.size) (by repeat (first | with_reducible assumption | with_reducible exact Upd.refl _ _ | with_reducible refine Upd.set ?_ (by first | (left; simp; done) | (left; omega)) _ | with_reducible refine Upd.next ?_ (Upd.of_ext (by with_reducible assumption)))) (fun b hb e => by have := (own_atB HO5.out hb).1; omega)) (by omega)
      · exact OI.base (own_upd' (own_upd' o7 HU5.out (fun b hb e => (hd7 b hb).2 e)) (S := fun b => b = w.heap.size) (by repeat (first | with_reducible assumption | with_reducible exact Upd.refl _ _ | with_reducible refine Upd.set ?_ (by first | (left; simp; done) | (left; omega)) _ | with_reducible refine Upd.next ?_ (Upd.of_ext (by with_reducible assumption)))) (fun b hb e => by have := (own_atB o7 hb).1; omega)) (by omega)
      · intro b
        refine ⟨fun h0 h2 => ?_, fun h0 h7 => ?_, fun h2 h7 => ?_, not_atB b⟩
        · have := atB_some h0; have := atB_some h2; omega
        · have := atB_some h0; have := (hd7 b h7).1; omega
        · have := atB_some h2; have := (hd7 b h7).2; omega
end Go.Proofs.Ytcjeeggffeoilaa
