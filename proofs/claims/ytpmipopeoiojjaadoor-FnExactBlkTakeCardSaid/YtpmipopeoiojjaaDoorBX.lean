/- Pieces of code as words and back: contracts of BlkWords and BlkTake of both sides. Conditions: the table of forms is laid; lengths that a machine can hold. -/
import Derived.Test.YtpmipopeoiojjaaDoorIT
import Derived.Test.YtpmipopeoiojjaaDoorDW
namespace Go.Proofs.YtpmipopeoiojjaaDoor
open Go Go.RowKit
set_option linter.unusedVariables false
set_option linter.unusedSimpArgs false

def putI (x : In4) : Int := insPut x.o x.d x.a x.k
/-- The instructions that so many words begin with. -/
def blkTake : List Int → List In4
  | [] => []
  | x :: l => if takeOk x then tk x :: blkTake l else []
theorem blkTake_stop : ∀ {ws : List Int} {j : Nat} {x : Int}, ws[j]? = some x → takeOk x = false → (∀ t y, t < j → ws[t]? = some y → takeOk y = true) → blkTake ws = (ws.take j).map tk
  | [], j, x, h, _, _ => by simp at h
  | a :: l, 0, x, h, hn, _ => by
    simp at h
    subst h
    simp [blkTake, hn]
  | a :: l, j + 1, x, h, hn, hall => by
    have h' : l[j]? = some x := by simpa using h
    have ha := hall 0 a (by omega) rfl
    rw [blkTake, if_pos ha, blkTake_stop h' hn fun t y (ht : t < j) (hy : l[t]? = some y) => hall (t + 1) y (by omega) (by simpa using hy)]
    rfl
theorem blkTake_all : ∀ {ws : List Int}, (∀ (t : Nat) (y : Int), ws[t]? = some y → takeOk y = true) → blkTake ws = ws.map tk
  | [], _ => rfl
  | a :: l, hall => by
    rw [blkTake, if_pos (hall 0 a rfl), blkTake_all fun t y hy => hall (t + 1) y (by simpa using hy)]
    rfl
theorem blkTake_length : ∀ ws : List Int, (blkTake ws).length ≤ ws.length
  | [] => by simp [blkTake]
  | a :: l => by
    have := blkTake_length l
    rw [blkTake]
    split <;> simp <;> omega

section
variable {P : Program} {ops : Array Oper} {Q : Exit → Act → World → Prop} {rest : List Oper} {o : Oper} {a : Act} {w : World} {TS TM : TypeId}
/-- 'append(list, x)' of one record of four ints. -/
theorem app_in4 (ht : P.underlying TS = some (.slice TM)) (hinf : (P.info? TM).map (fun i => (i.zero, i.size, i.bytes)) = some (some (.agg #[.int .i64 0, .int .i64 0, .int .i64 0, .int .i64 0]), 4, 32))
    (hgd : o.guard = none) (s x : Operand) (ho : o.op = .call { callee := .builtin .append, args := #[s, x], argTypes := #[TS, TS] })
    (lo : Nat) (A : Option Addr) (k : Nat) (ms : List In4) (hown : OIn4 TM w lo A k ms) (n : Nat) (hln : ms.length = n) (hs : a.eval s = .slice A n k) (m : In4) (ad : Addr) (kx : Nat) (hx : a.eval x = .slice (some ad) 1 kx)
    (hc0 : w.cell? (ad.add 0) = some (.int .i64 m.o)) (hc1 : w.cell? (ad.add 1) = some (.int .i64 m.d)) (hc2 : w.cell? (ad.add 2) = some (.int .i64 m.a)) (hc3 : w.cell? (ad.add 3) = some (.int .i64 m.k)) (hn : n < 1099511627776) (hlo : lo ≤ w.heap.size)
    (h : ∀ A' k' w', OIn4 TM w' lo A' k' (ms ++ [m]) → Upd (atB A) w w' → wpList P ops Q rest (a.put o.dst (.slice A' (n + 1) k')) w') : wpList P ops Q (o :: rest) a w := by
  subst hln
  obtain ⟨i, hi, hz, hz1, hz2⟩ := info_parts hinf
  refine wpList_append_own w hgd s x TS ho lo TM i _ 4 32 ht hi hz hz1 hz2 rfl (by decide) _ ms.length _ hs hown ad 1 kx m.cells hx rfl ?_ ?_ (by unfold maxLen; omega) (by omega) hlo ?_
  · intro j u hj
    match j, hj with
    | 0, hj => injection hj with hj; subst hj; exact hc0
    | 1, hj => injection hj with hj; subst hj; exact hc1
    | 2, hj => injection hj with hj; subst hj; exact hc2
    | 3, hj => injection hj with hj; subst hj; exact hc3
  · intro u hu
    simp only [In4.cells, List.mem_cons, List.not_mem_nil, or_false] at hu
    rcases hu with rfl | rfl | rfl | rfl <;> rfl
  · intro v' w' ho' hg _
    obtain ⟨A', k', rfl, hnil⟩ := own_shape ho'
    refine h A' k' w' ?_ (grown_upd hg)
    unfold OIn4
    rw [List.flatMap_append, List.length_append]
    exact ho'
end
theorem nilI (TI : TypeId) (w : World) (lo : Nat) : OI TI w lo none 0 [] := ⟨rfl, .inl ⟨rfl, rfl⟩⟩
theorem nilIn4 (T : TypeId) (w : World) (lo : Nat) : OIn4 T w lo none 0 [] := ⟨rfl, .inl ⟨rfl, rfl⟩⟩
theorem madeIn4 {T : TypeId} (w : World) {lo : Nat} (hl : lo ≤ w.heap.size) : OIn4 T (w.alloc (.cells #[] T)) lo (some ⟨w.heap.size, 0, none⟩) 0 [] := World.ownsRow_made w #[] 0 hl (by unfold maxLen; omega) rfl
theorem take_snoc {α β : Type} {f : α → β} {l : List α} {j : Nat} {x : α} (hx : l[j]? = some x) : (l.take (j + 1)).map f = (l.take j).map f ++ [f x] := by rw [List.take_add_one, hx, List.map_append]; rfl

theorem implBlkWords (A : Option Addr) (k : Nat) (l : List In4) (w : World) (h : RIn4 38 w A l) (hn : l.length ≤ 1048576) (hF : LaidAt w) {zs : List Int} (hv : l.map putI = zs) :
    Calls Tryd.prog 8 #[.slice A l.length k] w (RetI 3 w zs) := by
  subst hv
  go_enter Tryd.func8, Tryd.ntmps8
  go_wp2
  go_loopw [3, 8] (fun s i wr => ∃ (j : Nat) (A' : Option Addr) (k' : Nat), i = .int .i64 j ∧ j ≤ l.length ∧ s = .slice A' ((l.take j).map putI).length k' ∧ OI 3 wr w.heap.size A' k' ((l.take j).map putI) ∧ Ext w wr) (fun _ i _ => (l.length - intOf i).toNat)
  case atStart => exact ⟨0, none, 0, rfl, Nat.zero_le _, rfl, nilI _ _ _, (by repeat (first | with_reducible assumption | with_reducible exact Ext.refl _ | with_reducible apply Ext.drewN | with_reducible apply Ext.drew | with_reducible apply Ext.alloc | with_reducible refine Ext.set ?_ (by first | (simp; done) | (simp; omega)) _ | with_reducible refine Ext.next ?_ (by with_reducible assumption)))⟩
  case round =>
    obtain ⟨j, A', k', rfl, hj, rfl, ho, hext⟩ := hrel
    have hlj : ((l.take j).map putI).length = j := by simp; omega
    by_cases hlt : j < l.length
    · obtain ⟨b, o, x, rfl, hb, hx, hc0, hc1, hc2, hc3⟩ := (h.ext hext).at_ hlt
      have HT : Hid ((l.take (j + 1)).map putI = (l.take j).map putI ++ [insPut x.o x.d x.a x.k]) := hid (take_snoc hx)
      obtain ⟨xo, xd, xa, xk⟩ := x
      simp only at hc0 hc1 hc2 hc3 HT
      have HO := hid ho
      have HL := hid hlj
      have hxs := hext.size
      clear hx ho hlj h
      generalize hL : ((l.take j).map putI) = ys at *
      have HY := hid hL
      clear hL
      go_wp2_with fail
      refine (implInsPut _ _ _ _ _ (hF.ext (by repeat (first | with_reducible assumption | with_reducible exact Ext.refl _ | with_reducible apply Ext.drewN | with_reducible apply Ext.drew | with_reducible apply Ext.alloc | with_reducible refine Ext.set ?_ (by first | (simp; done) | (simp; omega)) _ | with_reducible refine Ext.next ?_ (by with_reducible assumption))))).mono ?_
      rintro e w1 ⟨rfl, hw1⟩
      have hz1 := hw1.size
      try simp at hz1
      have HE1 : Hid (Ext w w1) := hid (by repeat (first | with_reducible assumption | with_reducible exact Ext.refl _ | with_reducible apply Ext.drewN | with_reducible apply Ext.drew | with_reducible apply Ext.alloc | with_reducible refine Ext.set ?_ (by first | (simp; done) | (simp; omega)) _ | with_reducible refine Ext.next ?_ (by with_reducible assumption)))
      go_wp2_with (at_builtin; (refine app_int Tryd.underlying24 info_int rfl _ _ rfl w.heap.size A' k' ys (HO.out.ext (by repeat (first | with_reducible assumption | with_reducible exact Ext.refl _ | with_reducible apply Ext.drewN | with_reducible apply Ext.drew | with_reducible apply Ext.alloc | with_reducible refine Ext.set ?_ (by first | (simp; done) | (simp; omega)) _ | with_reducible refine Ext.next ?_ (by with_reducible assumption)))) ys.length rfl rfl (insPut xo xd xa xk) ⟨w1.heap.size, 0, none⟩ 1 rfl (by rw [addr_add]; go_simp) (by rw [HL.out]; omega) (by simp; omega) ?_); (intro A5 k5 w5 ho5 hu5); (have HO5 := hid ho5); (have HU5 : Hid (Ext w w5) := hid (((Upd.of_ext (S := fun _ => False) (Ext.alloc HE1.out _)).far2 hu5 fun b hb => (own_atB HO.out hb).1).ext (fun b hb => hb.elim))); clear ho5 hu5)
      go_roundw
      case rel => exact ⟨j + 1, A5, k5, by go_num, by omega, by rw [HT.out, List.length_append]; rfl, by rw [HT.out]; exact HO5.out, HU5.out⟩
      case measure => simp [intOf]; omega
    · obtain rfl : j = l.length := by omega
      have HO := hid ho
      have e : l.take l.length = l := List.take_length
      rw [e] at HO
      clear ho
      go_wp2
      go_ret
      exact ⟨A', k', by rw [e]; rfl, HO.out, hext⟩
theorem specBlkWords (A : Option Addr) (k : Nat) (l : List In4) (w : World) (h : RIn4 38 w A l) (hn : l.length ≤ 1048576) {zs : List Int} (hv : l.map putI = zs) :
    Calls Tryd.prog 6 #[.slice A l.length k] w (RetI 3 w zs) := by
  subst hv
  go_enter Tryd.func6, Tryd.ntmps6
  go_wp2
  go_loopw [3, 4] (fun s i wr => ∃ (j : Nat) (A' : Option Addr) (k' : Nat), i = .int .i64 j ∧ j ≤ l.length ∧ s = .slice A' ((l.take j).map putI).length k' ∧ OI 3 wr w.heap.size A' k' ((l.take j).map putI) ∧ Ext w wr) (fun _ i _ => (l.length - intOf i).toNat)
  case atStart => exact ⟨0, some ⟨w.heap.size, 0, none⟩, 0, rfl, Nat.zero_le _, rfl, OI.made w (Nat.le_refl _), (by repeat (first | with_reducible assumption | with_reducible exact Ext.refl _ | with_reducible apply Ext.drewN | with_reducible apply Ext.drew | with_reducible apply Ext.alloc | with_reducible refine Ext.set ?_ (by first | (simp; done) | (simp; omega)) _ | with_reducible refine Ext.next ?_ (by with_reducible assumption)))⟩
  case round =>
    obtain ⟨j, A', k', rfl, hj, rfl, ho, hext⟩ := hrel
    have hlj : ((l.take j).map putI).length = j := by simp; omega
    by_cases hlt : j < l.length
    · obtain ⟨b, o, x, rfl, hb, hx, hc0, hc1, hc2, hc3⟩ := (h.ext hext).at_ hlt
      have HT : Hid ((l.take (j + 1)).map putI = (l.take j).map putI ++ [insPut x.o x.d x.a x.k]) := hid (take_snoc hx)
      obtain ⟨xo, xd, xa, xk⟩ := x
      simp only at hc0 hc1 hc2 hc3 HT
      have HO := hid ho
      have HL := hid hlj
      have hxs := hext.size
      clear hx ho hlj h
      generalize hL : ((l.take j).map putI) = ys at *
      have HY := hid hL
      clear hL
      go_wp2_with fail
      refine (specInsPut _ _ _ _ _).mono ?_
      rintro e w1 ⟨rfl, hw1⟩
      have hz1 := hw1.size
      try simp at hz1
      have HE1 : Hid (Ext w w1) := hid (by repeat (first | with_reducible assumption | with_reducible exact Ext.refl _ | with_reducible apply Ext.drewN | with_reducible apply Ext.drew | with_reducible apply Ext.alloc | with_reducible refine Ext.set ?_ (by first | (simp; done) | (simp; omega)) _ | with_reducible refine Ext.next ?_ (by with_reducible assumption)))
      go_wp2_with (at_builtin; (refine app_int Tryd.underlying24 info_int rfl _ _ rfl w.heap.size A' k' ys (HO.out.ext (by repeat (first | with_reducible assumption | with_reducible exact Ext.refl _ | with_reducible apply Ext.drewN | with_reducible apply Ext.drew | with_reducible apply Ext.alloc | with_reducible refine Ext.set ?_ (by first | (simp; done) | (simp; omega)) _ | with_reducible refine Ext.next ?_ (by with_reducible assumption)))) ys.length rfl rfl (insPut xo xd xa xk) ⟨w1.heap.size, 0, none⟩ 1 rfl (by rw [addr_add]; go_simp) (by rw [HL.out]; omega) (by simp; omega) ?_); (intro A5 k5 w5 ho5 hu5); (have HO5 := hid ho5); (have HU5 : Hid (Ext w w5) := hid (((Upd.of_ext (S := fun _ => False) (Ext.alloc HE1.out _)).far2 hu5 fun b hb => (own_atB HO.out hb).1).ext (fun b hb => hb.elim))); clear ho5 hu5)
      go_roundw
      case rel => exact ⟨j + 1, A5, k5, by go_num, by omega, by rw [HT.out, List.length_append]; rfl, by rw [HT.out]; exact HO5.out, HU5.out⟩
      case measure => simp [intOf]; omega
    · obtain rfl : j = l.length := by omega
      have HO := hid ho
      have e : l.take l.length = l := List.take_length
      rw [e] at HO
      clear ho
      go_wp2
      go_ret
      exact ⟨A', k', by rw [e]; rfl, HO.out, hext⟩

set_option maxRecDepth 100000 in
theorem implBlkTake (A : Option Addr) (k : Nat) (l : List Int) (w : World) (h : RI 3 w A l) (hn : l.length ≤ 1048576) (hF : LaidAt w) {zs : List In4} (hv : blkTake l = zs) :
    Calls Tryd.prog 16 #[.slice A l.length k] w (RetIn4 38 w zs) := by
  subst hv
  go_enter Tryd.func16, Tryd.ntmps16
  go_wp2
  go_loopw [3, 10] (fun s i wr => ∃ (j : Nat) (A' : Option Addr) (k' : Nat), i = .int .i64 j ∧ j ≤ l.length ∧ s = .slice A' ((l.take j).map tk).length k' ∧ OIn4 38 wr w.heap.size A' k' ((l.take j).map tk) ∧ (∀ t y, t < j → l[t]? = some y → takeOk y = true) ∧ Ext w wr) (fun _ i _ => (l.length - intOf i).toNat)
  case atStart => exact ⟨0, none, 0, rfl, Nat.zero_le _, rfl, nilIn4 _ _ _, fun t y ht => absurd ht (by omega), (by repeat (first | with_reducible assumption | with_reducible exact Ext.refl _ | with_reducible apply Ext.drewN | with_reducible apply Ext.drew | with_reducible apply Ext.alloc | with_reducible refine Ext.set ?_ (by first | (simp; done) | (simp; omega)) _ | with_reducible refine Ext.next ?_ (by with_reducible assumption)))⟩
  case round =>
    obtain ⟨j, A', k', rfl, hj, rfl, ho, hall, hext⟩ := hrel
    have hlj : ((l.take j).map tk).length = j := by simp; omega
    by_cases hlt : j < l.length
    · obtain ⟨b, o, x, rfl, hb, hx, hc0⟩ := (h.ext hext).at_ hlt
      have HT : Hid ((l.take (j + 1)).map tk = (l.take j).map tk ++ [tk x]) := hid (take_snoc hx)
      have HO := hid ho
      have HL := hid hlj
      have hxs := hext.size
      have HA := hid hall
      have HX := hid hx
      cases ok : takeOk x
      · have HR : Hid (blkTake l = (l.take j).map tk) := hid (blkTake_stop hx ok hall)
        have E : Hid (retTake (insTake x) = .tuple #[.agg #[.int .i64 0, .int .i64 0, .int .i64 0, .int .i64 0], .bool false]) := hid (by rw [insTake_no ok]; rfl)
        clear hx ho hlj h hall ok
        generalize hL : ((l.take j).map tk) = ys at *
        have HY := hid hL
        clear hL
        go_wp2_with fail
        refine (implInsTake _ _ (hF.ext (by repeat (first | with_reducible assumption | with_reducible exact Ext.refl _ | with_reducible apply Ext.drewN | with_reducible apply Ext.drew | with_reducible apply Ext.alloc | with_reducible refine Ext.set ?_ (by first | (simp; done) | (simp; omega)) _ | with_reducible refine Ext.next ?_ (by with_reducible assumption))))).mono ?_
        rintro e w1 ⟨rfl, hw1⟩
        rw [E.out]
        go_wp2
        go_ret
        exact ⟨A', k', by rw [HR.out]; rfl, by rw [HR.out]; exact HO.out.ext (by repeat (first | with_reducible assumption | with_reducible exact Ext.refl _ | with_reducible apply Ext.drewN | with_reducible apply Ext.drew | with_reducible apply Ext.alloc | with_reducible refine Ext.set ?_ (by first | (simp; done) | (simp; omega)) _ | with_reducible refine Ext.next ?_ (by with_reducible assumption))), (by repeat (first | with_reducible assumption | with_reducible exact Ext.refl _ | with_reducible apply Ext.drewN | with_reducible apply Ext.drew | with_reducible apply Ext.alloc | with_reducible refine Ext.set ?_ (by first | (simp; done) | (simp; omega)) _ | with_reducible refine Ext.next ?_ (by with_reducible assumption)))⟩
      · have HN : Hid (∀ t y, t < j + 1 → l[t]? = some y → takeOk y = true) := hid fun t y ht hy => by
          rcases Nat.lt_or_ge t j with h1 | h1
          · exact hall t y h1 hy
          · obtain rfl : t = j := by omega
            rw [hx] at hy
            injection hy with hy
            rw [← hy]
            exact ok
        have E : Hid (retTake (insTake x) = .tuple #[.agg #[.int .i64 (x / 4096), .int .i64 (x / 1024 % 4), .int .i64 (x / 256 % 4), .int .i64 (x % 256)], .bool true]) := hid (by rw [insTake_yes ok]; rfl)
        have HK : Hid (tk x = ⟨x / 4096, x / 1024 % 4, x / 256 % 4, x % 256⟩) := hid rfl
        clear hx ho hlj h hall ok
        generalize hL : ((l.take j).map tk) = ys at *
        generalize tk x = tx at *
        have HY := hid hL
        clear hL
        go_wp2_with fail
        refine (implInsTake _ _ (hF.ext (by repeat (first | with_reducible assumption | with_reducible exact Ext.refl _ | with_reducible apply Ext.drewN | with_reducible apply Ext.drew | with_reducible apply Ext.alloc | with_reducible refine Ext.set ?_ (by first | (simp; done) | (simp; omega)) _ | with_reducible refine Ext.next ?_ (by with_reducible assumption))))).mono ?_
        rintro e w1 ⟨rfl, hw1⟩
        rw [E.out]
        generalize x / 4096 = y0 at *
        generalize x / 1024 % 4 = y1 at *
        generalize x / 256 % 4 = y2 at *
        generalize x % 256 = y3 at *
        have hz1 : wr.heap.size ≤ w1.heap.size := hw1.size
        have HE1 : Hid (Ext w w1) := hid (by repeat (first | with_reducible assumption | with_reducible exact Ext.refl _ | with_reducible apply Ext.drewN | with_reducible apply Ext.drew | with_reducible apply Ext.alloc | with_reducible refine Ext.set ?_ (by first | (simp; done) | (simp; omega)) _ | with_reducible refine Ext.next ?_ (by with_reducible assumption)))
        go_wp2_with (at_builtin; (refine app_in4 Tryd.underlying26 info_In4 rfl _ _ rfl w.heap.size A' k' ys (HO.out.ext (by repeat (first | with_reducible assumption | with_reducible exact Ext.refl _ | with_reducible apply Ext.drewN | with_reducible apply Ext.drew | with_reducible apply Ext.alloc | with_reducible refine Ext.set ?_ (by first | (simp; done) | (simp; omega)) _ | with_reducible refine Ext.next ?_ (by with_reducible assumption)))) ys.length rfl rfl ⟨y0, y1, y2, y3⟩ ⟨w1.heap.size + 1, 0, none⟩ 1 rfl (by rw [addr_add]; go_simp) (by rw [addr_add]; go_simp) (by rw [addr_add]; go_simp) (by rw [addr_add]; go_simp) (by rw [HL.out]; omega) (by simp; omega) ?_); (intro A5 k5 w5 ho5 hu5); (have HO5 := hid ho5); (have HU5 : Hid (Ext w w5) := hid (((Upd.of_ext (S := fun _ => False) (Ext.alloc (Ext.alloc HE1.out _) _)).far2 hu5 fun b hb => (own_atB HO.out hb).1).ext (fun b hb => hb.elim))); clear ho5 hu5)
        go_roundw
        case rel => exact ⟨j + 1, A5, k5, by go_num, by omega, by rw [HT.out, List.length_append]; rfl, by rw [HT.out, HK.out]; exact HO5.out, HN.out, HU5.out⟩
        case measure => simp [intOf]; omega
    · obtain rfl : j = l.length := by omega
      have HO := hid ho
      have HR : Hid (blkTake l = (l.take l.length).map tk) := hid (by rw [blkTake_all fun t y hy => hall t y (List.getElem?_eq_some_iff.1 hy).1 hy, List.take_length])
      clear ho hall
      go_wp2
      go_ret
      exact ⟨A', k', by rw [HR.out]; rfl, by rw [HR.out]; exact HO.out, hext⟩

set_option maxRecDepth 100000 in
theorem specBlkTake (A : Option Addr) (k : Nat) (l : List Int) (w : World) (h : RI 3 w A l) (hn : l.length ≤ 1048576) {zs : List In4} (hv : blkTake l = zs) :
    Calls Tryd.prog 14 #[.slice A l.length k] w (RetIn4 38 w zs) := by
  subst hv
  go_enter Tryd.func14, Tryd.ntmps14
  go_wp2
  go_loopw [3, 4] (fun s i wr => ∃ (j : Nat) (A' : Option Addr) (k' : Nat), i = .int .i64 j ∧ j ≤ l.length ∧ s = .slice A' ((l.take j).map tk).length k' ∧ OIn4 38 wr w.heap.size A' k' ((l.take j).map tk) ∧ (∀ t y, t < j → l[t]? = some y → takeOk y = true) ∧ Ext w wr) (fun _ i _ => (l.length - intOf i).toNat)
  case atStart => exact ⟨0, some ⟨w.heap.size, 0, none⟩, 0, rfl, Nat.zero_le _, rfl, madeIn4 w (Nat.le_refl _), fun t y ht => absurd ht (by omega), (by repeat (first | with_reducible assumption | with_reducible exact Ext.refl _ | with_reducible apply Ext.drewN | with_reducible apply Ext.drew | with_reducible apply Ext.alloc | with_reducible refine Ext.set ?_ (by first | (simp; done) | (simp; omega)) _ | with_reducible refine Ext.next ?_ (by with_reducible assumption)))⟩
  case round =>
    obtain ⟨j, A', k', rfl, hj, rfl, ho, hall, hext⟩ := hrel
    have hlj : ((l.take j).map tk).length = j := by simp; omega
    by_cases hlt : j < l.length
    · obtain ⟨b, o, x, rfl, hb, hx, hc0⟩ := (h.ext hext).at_ hlt
      have HT : Hid ((l.take (j + 1)).map tk = (l.take j).map tk ++ [tk x]) := hid (take_snoc hx)
      have HO := hid ho
      have HL := hid hlj
      have hxs := hext.size
      have HA := hid hall
      have HX := hid hx
      cases ok : takeOk x
      · have HR : Hid (blkTake l = (l.take j).map tk) := hid (blkTake_stop hx ok hall)
        have E : Hid (retTake (insTake x) = .tuple #[.agg #[.int .i64 0, .int .i64 0, .int .i64 0, .int .i64 0], .bool false]) := hid (by rw [insTake_no ok]; rfl)
        clear hx ho hlj h hall ok
        generalize hL : ((l.take j).map tk) = ys at *
        have HY := hid hL
        clear hL
        go_wp2_with fail
        refine (specInsTake _ _).mono ?_
        rintro e w1 ⟨rfl, hw1⟩
        rw [E.out]
        go_wp2
        go_ret
        exact ⟨A', k', by rw [HR.out]; rfl, by rw [HR.out]; exact HO.out.ext (by repeat (first | with_reducible assumption | with_reducible exact Ext.refl _ | with_reducible apply Ext.drewN | with_reducible apply Ext.drew | with_reducible apply Ext.alloc | with_reducible refine Ext.set ?_ (by first | (simp; done) | (simp; omega)) _ | with_reducible refine Ext.next ?_ (by with_reducible assumption))), (by repeat (first | with_reducible assumption | with_reducible exact Ext.refl _ | with_reducible apply Ext.drewN | with_reducible apply Ext.drew | with_reducible apply Ext.alloc | with_reducible refine Ext.set ?_ (by first | (simp; done) | (simp; omega)) _ | with_reducible refine Ext.next ?_ (by with_reducible assumption)))⟩
      · have HN : Hid (∀ t y, t < j + 1 → l[t]? = some y → takeOk y = true) := hid fun t y ht hy => by
          rcases Nat.lt_or_ge t j with h1 | h1
          · exact hall t y h1 hy
          · obtain rfl : t = j := by omega
            rw [hx] at hy
            injection hy with hy
            rw [← hy]
            exact ok
        have E : Hid (retTake (insTake x) = .tuple #[.agg #[.int .i64 (x / 4096), .int .i64 (x / 1024 % 4), .int .i64 (x / 256 % 4), .int .i64 (x % 256)], .bool true]) := hid (by rw [insTake_yes ok]; rfl)
        have HK : Hid (tk x = ⟨x / 4096, x / 1024 % 4, x / 256 % 4, x % 256⟩) := hid rfl
        clear hx ho hlj h hall ok
        generalize hL : ((l.take j).map tk) = ys at *
        generalize tk x = tx at *
        have HY := hid hL
        clear hL
        go_wp2_with fail
        refine (specInsTake _ _).mono ?_
        rintro e w1 ⟨rfl, hw1⟩
        rw [E.out]
        generalize x / 4096 = y0 at *
        generalize x / 1024 % 4 = y1 at *
        generalize x / 256 % 4 = y2 at *
        generalize x % 256 = y3 at *
        have hz1 : wr.heap.size ≤ w1.heap.size := hw1.size
        have HE1 : Hid (Ext w w1) := hid (by repeat (first | with_reducible assumption | with_reducible exact Ext.refl _ | with_reducible apply Ext.drewN | with_reducible apply Ext.drew | with_reducible apply Ext.alloc | with_reducible refine Ext.set ?_ (by first | (simp; done) | (simp; omega)) _ | with_reducible refine Ext.next ?_ (by with_reducible assumption)))
        go_wp2_with (at_builtin; (refine app_in4 Tryd.underlying26 info_In4 rfl _ _ rfl w.heap.size A' k' ys (HO.out.ext (by repeat (first | with_reducible assumption | with_reducible exact Ext.refl _ | with_reducible apply Ext.drewN | with_reducible apply Ext.drew | with_reducible apply Ext.alloc | with_reducible refine Ext.set ?_ (by first | (simp; done) | (simp; omega)) _ | with_reducible refine Ext.next ?_ (by with_reducible assumption)))) ys.length rfl rfl ⟨y0, y1, y2, y3⟩ ⟨w1.heap.size + 1, 0, none⟩ 1 rfl (by rw [addr_add]; go_simp) (by rw [addr_add]; go_simp) (by rw [addr_add]; go_simp) (by rw [addr_add]; go_simp) (by rw [HL.out]; omega) (by simp; omega) ?_); (intro A5 k5 w5 ho5 hu5); (have HO5 := hid ho5); (have HU5 : Hid (Ext w w5) := hid (((Upd.of_ext (S := fun _ => False) (Ext.alloc (Ext.alloc HE1.out _) _)).far2 hu5 fun b hb => (own_atB HO.out hb).1).ext (fun b hb => hb.elim))); clear ho5 hu5)
        go_roundw
        case rel => exact ⟨j + 1, A5, k5, by go_num, by omega, by rw [HT.out, List.length_append]; rfl, by rw [HT.out, HK.out]; exact HO5.out, HN.out, HU5.out⟩
        case measure => simp [intOf]; omega
    · obtain rfl : j = l.length := by omega
      have HO := hid ho
      have HR : Hid (blkTake l = (l.take l.length).map tk) := hid (by rw [blkTake_all fun t y hy => hall t y (List.getElem?_eq_some_iff.1 hy).1 hy, List.take_length])
      clear ho hall
      go_wp2
      go_ret
      exact ⟨A', k', by rw [HR.out]; rfl, by rw [HR.out]; exact HO.out, hext⟩
end Go.Proofs.YtpmipopeoiojjaaDoor
