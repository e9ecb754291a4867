/- Contracts of the reference's own l4Copy and l4Fit. Conditions: lengths that a machine can hold. -/
import Derived.Test.YtcgelcaepkakaaaZ4
import Derived.Deep.RegionLaw
namespace Go.Proofs.Ytcgelcaepkakaaa
open Go Go.RowKit
set_option linter.unusedVariables false
set_option linter.unusedSimpArgs false

section
variable {P : Program} {TI TS : TypeId} {w : World} {ops : Array Oper} {o : Oper} {a : Act} {Q : Exit → Act → World → Prop} {K : Act → World → Prop} {E : Prop}
/-- 'append(list, ys...)' of ints, as a step of a region that draws its order. -/
theorem step_app_ints (ht : P.underlying TS = some (.slice TI)) (hinf : (P.info? TI).map (fun i => (i.zero, i.size, i.bytes)) = some (some (.int .i64 0), 1, 8))
    (hgd : o.guard = none) (s x : Operand) (ho : o.op = .call { callee := .builtin .append, args := #[s, x], argTypes := #[TS, TS] })
    (lo : Nat) (A : Option Addr) (k : Nat) (xs : List Int) (hown : OI TI w lo A k xs) (n : Nat) (hln : xs.length = n) (hs : a.eval s = .slice A n k) (B : Option Addr) (kb : Nat) (ys : List Int) (m : Nat) (hlm : ys.length = m) (hx : a.eval x = .slice B m kb)
    (hy : RI TI w B ys) (hnil : B = none → kb = 0) (r : Nat) (hr : n + m = r) (hn : r < 1099511627776) (hlo : lo ≤ w.heap.size)
    (h : ∀ A' k' w', OI TI w' lo A' k' (xs ++ ys) → Upd (atB A) w w' → K (a.put o.dst (.slice A' r k')) w') : if Region.wanted o (yielded ops a.tmps) = true then Oper.wp P o a w K Q else E := by
  have hw : Region.wanted o (yielded ops a.tmps) = true := by simp [Region.wanted, hgd]
  rw [if_pos hw]
  subst hlm hr
  subst hln
  obtain ⟨i, hi, hz, hz1, hz2⟩ := info_parts hinf
  rcases B with _ | ad
  · have he : ys = [] := by
      rcases ys with _ | ⟨y, ys⟩
      · rfl
      · obtain ⟨_, _, _, _, e, _⟩ := hy (by simp)
        cases e
    subst he
    rw [hnil rfl] at hx
    have hrun := run_append_owned_none (P := P) (w := w) lo TS o.type TI i 1 ht hi _ xs.length _ hown
    unfold Oper.wp
    simp [execOp, ho, resolve, invoke, builtin, hs, hx, hrun, Result.andThen]
    have := h A k w (by rw [List.append_nil]; exact hown) (Upd.refl _ _)
    exact this
  · refine wp_append_own w s x TS ho lo TI i _ 1 8 ht hi hz hz1 hz2 rfl (by decide) _ xs.length _ hs hown ad ys.length kb (ys.map (Value.int .i64)) hx (by simp) ?_ ?_ (by unfold maxLen; omega) (by omega) hlo ?_
    · intro j u hj
      obtain ⟨b, o', e, _, hc⟩ := Row.at_ hy hj
      injection e with e
      subst e
      rw [addr_add]
      exact hc
    · intro u hu
      obtain ⟨y, _, rfl⟩ := List.mem_map.1 hu
      rfl
    · intro v' w' ho' hg _
      obtain ⟨A', k', rfl, _⟩ := own_shape ho'
      refine h A' k' w' ?_ (grown_upd hg)
      unfold OI
      rw [List.map_append, List.length_append]
      exact ho'
end

set_option maxRecDepth 100000 in
set_option maxHeartbeats 2000000 in
theorem specCopy (A : Option Addr) (k : Nat) (ms : List Mn) (w : World) (h : RN 73 3 w A k ms) (hn : ms.length < 1048576) (hx : ∀ x ∈ ms, x.xs.length < 1048576) :
    Calls Try.prog 77 #[.slice A ms.length k] w (RetM 73 3 w (ms.map Mn.dat) (fun A n k => .agg #[.slice A n k])) := by
  have HX := hid hx
  clear hx
  go_enter Try.func77, Try.ntmps77
  go_wp2
  go_loopw [4] (fun sj wr => ∃ (j : Nat) (B : Option Addr) (kb : Nat) (os : List Mn), j ≤ ms.length ∧ sj = .int .i64 j ∧ wr.cell? ⟨w.heap.size + 1, 0, none⟩ = some (.slice B os.length kb) ∧ wr.frozen? ⟨w.heap.size + 1, 0, none⟩ = false ∧ OM 73 3 wr (w.heap.size + 1 + 1) B kb os ∧ os.map Mn.dat = (ms.map Mn.dat).take j ∧ os.length = j ∧ Ext (w.alloc (.cells #[.slice none 0 0] 25)) wr) (fun sj _ => ms.length - (intOf sj).toNat)
  case atStart => exact ⟨0, none, 0, [], Nat.zero_le _, rfl, by go_simp, by go_simp, OM.nil _ _, rfl, rfl, (by repeat (first | with_reducible assumption | with_reducible exact Ext.refl _ | with_reducible apply Ext.drewN | with_reducible apply Ext.drew | with_reducible apply Ext.alloc | with_reducible refine Ext.set ?_ (by first | (simp; done) | (simp; omega)) _ | with_reducible refine Ext.next ?_ (by with_reducible assumption)))⟩
  case round =>
    obtain ⟨j, B, kb, os, hj, rfl, p0, pf, hos, hd, hol, hext⟩ := hrel
    have HD := hid hd
    have HOL := hid hol
    have hol1 : os.length ≤ j := by omega
    have hpl := World.block_lt_of_cell? _ _ p0
    simp only at hpl
    have hwx : Ext w wr := (Ext.alloc (Ext.refl _) _).next hext
    have hsz := hwx.size
    clear hd hol
    by_cases hlt : j < ms.length
    · obtain ⟨b, o, x, rfl, hbl, hxx, c0w, c1w, hJw⟩ := h.at_ hlt
      have c0 := keep hwx c0w
      have c1 := keep hwx c1w
      have hJ := hJw.ext hwx
      have hbl' := lt_ext hwx hbl
      have hxl := HX.out x (List.mem_of_getElem? hxx)
      have HXD : Hid ((ms.map Mn.dat)[j]? = some x.dat) := hid (by rw [List.getElem?_map, hxx]; rfl)
      have HB : Hid (∀ y, atB B y → w.heap.size + 1 + 1 ≤ y) := hid fun y hy => (own_atB hos.1 hy).1
      clear hxx
      go_wp2
      go_region_law (first | ((refine step_app_ints Try.underlying28 info_int (by rfl) _ _ (by rfl) wr.heap.size (some ⟨wr.heap.size, 0, none⟩) 0 [] (OI.ext (OI.made wr (Nat.le_refl _)) (by repeat (first | with_reducible assumption | with_reducible exact Ext.refl _ | with_reducible apply Ext.drewN | with_reducible apply Ext.drew | with_reducible apply Ext.alloc | with_reducible refine Ext.set ?_ (by first | (simp; done) | (simp; omega)) _ | with_reducible refine Ext.next ?_ (by with_reducible assumption)))) 0 rfl (by rfl) x.A x.k x.xs x.xs.length rfl (by rfl) ((hJ.ext (by repeat (first | with_reducible assumption | with_reducible exact Ext.refl _ | with_reducible apply Ext.drewN | with_reducible apply Ext.drew | with_reducible apply Ext.alloc | with_reducible refine Ext.set ?_ (by first | (simp; done) | (simp; omega)) _ | with_reducible refine Ext.next ?_ (by with_reducible assumption)))).1) hJ.2.1 x.xs.length (by omega) (by omega) (by simp) ?_); (intro A3 k3 w3 ho3 hu3); (have hE3 : Ext wr w3 := ((Upd.of_ext (by repeat (first | with_reducible assumption | with_reducible exact Ext.refl _ | with_reducible apply Ext.drewN | with_reducible apply Ext.drew | with_reducible apply Ext.alloc | with_reducible refine Ext.set ?_ (by first | (simp; done) | (simp; omega)) _ | with_reducible refine Ext.next ?_ (by with_reducible assumption)))).next hu3).ext (fun y hy => by obtain ⟨_, _, e⟩ := hy; injection e with e; injection e with e; omega)); (have hW3 := hwx.next hE3); (have p3 := keep hE3 p0); (have pf3 := keepf hE3 p0 pf); (have hpl3 := lt_ext hE3 hpl); (have hs3 := hE3.size); (have c03 := keep hE3 c0); (have c13 := keep hE3 c1); (have hbl3 := lt_ext hE3 hbl')) | ((refine step_app_own (by decide) Try.underlying23 info_mono (by rfl) _ _ (by rfl) (w.heap.size + 1 + 1) B kb os (hos.ext (by repeat (first | with_reducible assumption | with_reducible exact Ext.refl _ | with_reducible apply Ext.drewN | with_reducible apply Ext.drew | with_reducible apply Ext.alloc | with_reducible refine Ext.set ?_ (by first | (simp; done) | (simp; omega)) _ | with_reducible refine Ext.next ?_ (by with_reducible assumption)))) os.length rfl (by rfl) ⟨x.c, A3, k3, x.xs⟩ ⟨w3.heap.size, 0, none⟩ 1 (by rfl) (by rw [addr_add]; go_simp) (by rw [addr_add]; go_simp) ((OI.ext ho3 (by repeat (first | with_reducible assumption | with_reducible exact Ext.refl _ | with_reducible apply Ext.drewN | with_reducible apply Ext.drew | with_reducible apply Ext.alloc | with_reducible refine Ext.set ?_ (by first | (simp; done) | (simp; omega)) _ | with_reducible refine Ext.next ?_ (by with_reducible assumption)))).base (by omega)) (fun a ha y h1 h2 => by have h3 := (own_atB (hos.2.1 a ha) h1).2; have h4 := (own_atB ho3 h2).1; omega) (by omega) (by simp; omega) ?_); (intro B5 kb5 w4 ho4 hu4); (have hE4 : Ext w w4 := ((Upd.of_ext (hW3.next (by repeat (first | with_reducible assumption | with_reducible exact Ext.refl _ | with_reducible apply Ext.drewN | with_reducible apply Ext.drew | with_reducible apply Ext.alloc | with_reducible refine Ext.set ?_ (by first | (simp; done) | (simp; omega)) _ | with_reducible refine Ext.next ?_ (by with_reducible assumption))))).next hu4).ext (fun y hy => by have := HB.out y hy; omega)); (have p4 : w4.cell? ⟨w.heap.size + 1, 0, none⟩ = some (.slice B os.length kb) := (hu4.cell (p := ⟨w.heap.size + 1, 0, none⟩) (by simp; omega) (fun hy => by have := HB.out _ hy; simp only at this; omega)).trans (by go_simp)); (have pf4 : w4.frozen? ⟨w.heap.size + 1, 0, none⟩ = false := (hu4.frozen (p := ⟨w.heap.size + 1, 0, none⟩) (by simp; omega) (fun hy => by have := HB.out _ hy; simp only at this; omega)).trans (by go_simp)); (have hpl4 := World.block_lt_of_cell? _ _ p4); simp only at hpl4; (have hEq4 : Ext (w.alloc (.cells #[.slice none 0 0] 25)) w4 := ((Upd.of_ext (hext.next (hE3.next (by repeat (first | with_reducible assumption | with_reducible exact Ext.refl _ | with_reducible apply Ext.drewN | with_reducible apply Ext.drew | with_reducible apply Ext.alloc | with_reducible refine Ext.set ?_ (by first | (simp; done) | (simp; omega)) _ | with_reducible refine Ext.next ?_ (by with_reducible assumption)))))).next hu4).ext (fun y hy => by have := HB.out y hy; simp; omega))))
      all_goals
        have HO := hid (ho4.set (p := ⟨w.heap.size + 1, 0, none⟩) (by simp) (.slice B5 (os.length + 1) kb5))
        have HX := hid (hEq4.set (p := ⟨w.heap.size + 1, 0, none⟩) (by simp) (.slice B5 (os.length + 1) kb5))
        have hcl : (w4.setCell ⟨w.heap.size + 1, 0, none⟩ (.slice B5 (os.length + 1) kb5)).cell? ⟨w.heap.size + 1, 0, none⟩ = some (.slice B5 (os ++ [(⟨x.c, A3, k3, x.xs⟩ : Mn)]).length kb5) := by rw [World.cell?_setCell_same _ _ _ p4, List.length_append]; rfl
        have HD2 : Hid ((os ++ [(⟨x.c, A3, k3, x.xs⟩ : Mn)]).map Mn.dat = (ms.map Mn.dat).take (j + 1)) := hid (by rw [take_one HXD.out, List.map_append, HD.out]; rfl)
        clear hu4 ho4 hE4 hEq4 hE3 hu3 ho3
        go_wp2
        go_roundw
        case rel => exact ⟨j + 1, B5, kb5, os ++ [⟨x.c, A3, k3, x.xs⟩], by omega, by go_num, hcl, by simp [pf4], HO.out, HD2.out, by rw [List.length_append, HOL.out]; rfl, HX.out⟩
        case measure => simp [intOf]; omega
    · obtain rfl : j = ms.length := by omega
      have r0 : wr.cell? ⟨w.heap.size, 0, none⟩ = some (.slice none 0 0) := keep hext (by go_simp)
      have rf : wr.frozen? ⟨w.heap.size, 0, none⟩ = false := (hext.frozen (by simp)).trans (by go_simp)
      have rl := World.block_lt_of_cell? _ _ r0
      simp only at rl
      have HD2 : Hid (os.map Mn.dat = ms.map Mn.dat) := hid (by rw [HD.out, List.take_of_length_le (by simp)])
      have HO := hid ((hos.set (p := ⟨w.heap.size, 0, none⟩) (by simp only; omega) (.slice B os.length kb)).base (lo' := w.heap.size) (by omega))
      have HXW := hid (hwx.set (p := ⟨w.heap.size, 0, none⟩) (Nat.le_refl _) (.slice B os.length kb))
      clear hos hwx hext
      go_wp2
      refine bodyPost_ret (v := .agg #[.slice B os.length kb]) (by simp [results, Try.results77, go_sem, r0, rf, p0]) rfl ⟨B, kb, os, rfl, HD2.out, HO.out, HXW.out⟩
end Go.Proofs.Ytcgelcaepkakaaa
