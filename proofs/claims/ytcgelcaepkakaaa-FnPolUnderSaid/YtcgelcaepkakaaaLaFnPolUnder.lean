/- The law FnPolUnder: if all atoms of a sum are below a number what it comes to hangs on the first so many words alone. Conditions: none. -/
import Derived.Test.YtcgelcaepkakaaaRows
import Derived.WalkKit
import Derived.ProofKit
import Derived.OpenShut
import Derived.ShutString
import Derived.ChangeOld
import Derived.Below
import Derived.Carry
import Derived.Test.YtcgelcaepkakaaaF
import Derived.Test.YtcgelcaepkakaaaK
import Derived.Test.YtcgelcaepkakaaaPU
import Derived.Test.YtcgelcaepkakaaaPH
import Derived.Test.YtcgelcaepkakaaaV
import Derived.Deep.RegionHeld3
namespace Go.Proofs.Ytcgelcaepkakaaa.fnPolUnder
open Go.ChangeShapes Go.WideShapes Go.ChangeAt Go.RowKit
set_option linter.unusedVariables false
set_option linter.unusedSimpArgs false

theorem wordsB_wraps (xs : List Int) : wordsB (xs.map wrap) = true := by
  unfold wordsB
  rw [List.all_eq_true]
  intro x hx
  obtain ⟨y, _, rfl⟩ := List.mem_map.1 hx
  exact wrdOk_wrap _
theorem RI.take_ {TI : TypeId} {w : World} {A : Option Addr} {xs : List Int} (h : RI TI w A xs) (n : Nat) : RI TI w A (xs.take n) := fun hn => by
  obtain ⟨b, o, c, fr, h1, h2, h3⟩ := h (by intro e; apply hn; rw [List.map_take, e]; simp)
  refine ⟨b, o, c, fr, h1, h2, fun j hj => ?_⟩
  rw [List.map_take] at hj ⊢
  rw [h3 j (by rw [List.length_take] at hj; omega), List.getElem?_take, if_pos (by rw [List.length_take] at hj; omega)]
theorem implPolEval_v (A A' : Option Addr) (k k' n : Nat) (ms : List Mn) (vs : List Int) (w : World) (h : RM 73 3 w A ms) (hs : SzM ms) (h' : RI 3 w A' vs) (hl : vs.length = n) (hn' : vs.length < 4611686018427387904) {v : Int} (hv : polEval (ms.map Mn.dat) vs = v) :
    Calls Try.prog 20 #[.agg #[.slice A ms.length k], .slice A' n k'] w fun e w' => e = .returned (.int .i64 v) ∧ Ext w w' := by
  subst hl hv
  exact implPolEval A A' k k' ms vs w h hs h' hn'

set_option maxRecDepth 100000 in
set_option maxHeartbeats 10000000 in
theorem walk (A0 : Option Addr) (k0 : Nat) (bs0 : List Int) (A1 : Option Addr) (k1 : Nat) (bs1 : List Int) (w : World) (h0 : AB w A0 bs0) (s0 : bs0.length ≤ 9223372036854775807 ∧ bs0.length ≤ k0) (h1 : AB w A1 bs1) (s1 : bs1.length ≤ 9223372036854775807 ∧ bs1.length ≤ k1) :
    Calls Try.prog 6 #[.slice A0 bs0.length k0, .slice A1 bs1.length k1] w fun e w' => e = .returned (.bool true) ∧ Ext w w' := by
  by_cases hz : (1048576 : Int) < bs0.length
  · go_enter Try.func6, Try.ntmps6
    go_wp2
    go_ret
    exact ⟨rfl, (by repeat (first | with_reducible assumption | with_reducible exact Ext.refl _ | with_reducible apply Ext.drewN | with_reducible apply Ext.drew | with_reducible apply Ext.alloc | with_reducible refine Ext.set ?_ (by first | (simp; done) | (simp; omega)) _ | with_reducible refine Ext.next ?_ (by with_reducible assumption)))⟩
  by_cases hy : (1048576 : Int) < bs1.length
  · go_enter Try.func6, Try.ntmps6
    go_wp2
    go_ret
    exact ⟨rfl, (by repeat (first | with_reducible assumption | with_reducible exact Ext.refl _ | with_reducible apply Ext.drewN | with_reducible apply Ext.drew | with_reducible apply Ext.alloc | with_reducible refine Ext.set ?_ (by first | (simp; done) | (simp; omega)) _ | with_reducible refine Ext.next ?_ (by with_reducible assumption)))⟩
  go_enter Try.func6, Try.ntmps6
  go_wp2_with fail
  refine (drawUnder _ _ _ _ h0 s0.1 s0.2).mono ?_
  rintro e w1 ⟨A1, k1, ms1, n, rfl, G1, ⟨hn0, hn1⟩, hw1⟩
  have hs1 := G1.szM
  have HA := hid G1
  clear G1
  go_wp2_with fail
  refine (drawEval _ _ _ _ (h1.ext (by repeat (first | with_reducible assumption | with_reducible exact Ext.refl _ | with_reducible apply Ext.drewN | with_reducible apply Ext.drew | with_reducible apply Ext.alloc | with_reducible refine Ext.set ?_ (by first | (simp; done) | (simp; omega)) _ | with_reducible refine Ext.next ?_ (by with_reducible assumption)))) s1.1 s1.2).mono ?_
  rintro e w2 ⟨A2, k2, ms2, A3, k3, xs, rfl, G2, O3, hl3, hw2⟩
  have c1 : w2.cell? ⟨w1.heap.size, 0, none⟩ = some (.slice A1 ms1.length k1) := keep hw2 (by go_simp)
  have z1 := World.block_lt_of_cell? _ _ c1
  simp only at z1
  have HX := hid O3
  clear G2 O3
  obtain ⟨u, hu⟩ : ∃ u, polUnder n (ms1.map Mn.dat) = u := ⟨_, rfl⟩
  have HU := hid hu
  go_wp2_with fail
  refine (implPolUnder _ _ ms1 n _ (HA.out.rm.ext (by repeat (first | with_reducible assumption | with_reducible exact Ext.refl _ | with_reducible apply Ext.drewN | with_reducible apply Ext.drew | with_reducible apply Ext.alloc | with_reducible refine Ext.set ?_ (by first | (simp; done) | (simp; omega)) _ | with_reducible refine Ext.next ?_ (by with_reducible assumption)))) hs1).mono ?_
  rintro e w3 ⟨rfl, hw3⟩
  rw [HU.out]
  have c2 : w3.cell? ⟨w1.heap.size, 0, none⟩ = some (.slice A1 ms1.length k1) := keep hw3 (by go_simp)
  have z2 := World.block_lt_of_cell? _ _ c2
  simp only at z2
  go_wp2_with fail
  refine (specPolUnder _ _ ms1 n _ (HA.out.rm.ext (by repeat (first | with_reducible assumption | with_reducible exact Ext.refl _ | with_reducible apply Ext.drewN | with_reducible apply Ext.drew | with_reducible apply Ext.alloc | with_reducible refine Ext.set ?_ (by first | (simp; done) | (simp; omega)) _ | with_reducible refine Ext.next ?_ (by with_reducible assumption)))) hs1).mono ?_
  rintro e w4 ⟨rfl, hw4⟩
  rw [HU.out]
  have c3 := keep hw4 c2
  have z3 := World.block_lt_of_cell? _ _ c3
  simp only at z3
  have hne : (u != u) = false := by simp
  clear c1 c2
  go_wp2_with fail
  refine (laWords_ _ _ xs _ (HX.out.ri.ext (by repeat (first | with_reducible assumption | with_reducible exact Ext.refl _ | with_reducible apply Ext.drewN | with_reducible apply Ext.drew | with_reducible apply Ext.alloc | with_reducible refine Ext.set ?_ (by first | (simp; done) | (simp; omega)) _ | with_reducible refine Ext.next ?_ (by with_reducible assumption)))) (by omega)).mono ?_
  rintro e w5 ⟨A5, k5, rfl, O5, hw5⟩
  have c4 := keep hw5 c3
  have z4 := World.block_lt_of_cell? _ _ c4
  simp only at z4
  have HY := hid O5
  have HL : Hid ((xs.map wrap).length = xs.length) := hid (by simp)
  have HWB := hid (wordsB_wraps xs)
  generalize hys : xs.map wrap = ys at *
  have HYS := hid hys
  clear hys c3 O5
  cases ok : polOk (ms1.map Mn.dat)
  · have OK := hid ok
    clear ok hu
    go_wp2_with fail
    refine (specPolOk _ _ ms1 _ (HA.out.rm.ext (by repeat (first | with_reducible assumption | with_reducible exact Ext.refl _ | with_reducible apply Ext.drewN | with_reducible apply Ext.drew | with_reducible apply Ext.alloc | with_reducible refine Ext.set ?_ (by first | (simp; done) | (simp; omega)) _ | with_reducible refine Ext.next ?_ (by with_reducible assumption)))) hs1).mono ?_
    rintro e w6 ⟨rfl, hw6⟩
    rw [OK.out]
    go_wp2_with (go_at_call 17; refine (laOk_ _).mono ?_; rintro e w' ⟨rfl, rfl⟩)
    go_ret
    exact ⟨rfl, (by repeat (first | with_reducible assumption | with_reducible exact Ext.refl _ | with_reducible apply Ext.drewN | with_reducible apply Ext.drew | with_reducible apply Ext.alloc | with_reducible refine Ext.set ?_ (by first | (simp; done) | (simp; omega)) _ | with_reducible refine Ext.next ?_ (by with_reducible assumption)))⟩
  cases u
  · have OK := hid ok
    clear ok hu
    go_wp2_with fail
    refine (specPolOk _ _ ms1 _ (HA.out.rm.ext (by repeat (first | with_reducible assumption | with_reducible exact Ext.refl _ | with_reducible apply Ext.drewN | with_reducible apply Ext.drew | with_reducible apply Ext.alloc | with_reducible refine Ext.set ?_ (by first | (simp; done) | (simp; omega)) _ | with_reducible refine Ext.next ?_ (by with_reducible assumption)))) hs1).mono ?_
    rintro e w6 ⟨rfl, hw6⟩
    rw [OK.out]
    go_wp2_with (go_at_call 17; refine (laOk_ _).mono ?_; rintro e w' ⟨rfl, rfl⟩)
    go_ret
    exact ⟨rfl, (by repeat (first | with_reducible assumption | with_reducible exact Ext.refl _ | with_reducible apply Ext.drewN | with_reducible apply Ext.drew | with_reducible apply Ext.alloc | with_reducible refine Ext.set ?_ (by first | (simp; done) | (simp; omega)) _ | with_reducible refine Ext.next ?_ (by with_reducible assumption)))⟩
  by_cases hneg : n < 0
  · have OK := hid ok
    clear ok hu
    go_wp2_with fail
    refine (specPolOk _ _ ms1 _ (HA.out.rm.ext (by repeat (first | with_reducible assumption | with_reducible exact Ext.refl _ | with_reducible apply Ext.drewN | with_reducible apply Ext.drew | with_reducible apply Ext.alloc | with_reducible refine Ext.set ?_ (by first | (simp; done) | (simp; omega)) _ | with_reducible refine Ext.next ?_ (by with_reducible assumption)))) hs1).mono ?_
    rintro e w6 ⟨rfl, hw6⟩
    rw [OK.out]
    go_wp2_with (go_at_call 17; refine (laOk_ _).mono ?_; rintro e w' ⟨rfl, rfl⟩)
    go_ret
    exact ⟨rfl, (by repeat (first | with_reducible assumption | with_reducible exact Ext.refl _ | with_reducible apply Ext.drewN | with_reducible apply Ext.drew | with_reducible apply Ext.alloc | with_reducible refine Ext.set ?_ (by first | (simp; done) | (simp; omega)) _ | with_reducible refine Ext.next ?_ (by with_reducible assumption)))⟩
  obtain ⟨m, rfl⟩ : ∃ m : Nat, n = m := ⟨n.toNat, by omega⟩
  by_cases hgt : ys.length < m
  · have OK := hid ok
    clear ok hu
    go_wp2_with fail
    refine (specPolOk _ _ ms1 _ (HA.out.rm.ext (by repeat (first | with_reducible assumption | with_reducible exact Ext.refl _ | with_reducible apply Ext.drewN | with_reducible apply Ext.drew | with_reducible apply Ext.alloc | with_reducible refine Ext.set ?_ (by first | (simp; done) | (simp; omega)) _ | with_reducible refine Ext.next ?_ (by with_reducible assumption)))) hs1).mono ?_
    rintro e w6 ⟨rfl, hw6⟩
    rw [OK.out]
    go_wp2_with (go_at_call 17; refine (laOk_ _).mono ?_; rintro e w' ⟨rfl, rfl⟩)
    go_ret
    exact ⟨rfl, (by repeat (first | with_reducible assumption | with_reducible exact Ext.refl _ | with_reducible apply Ext.drewN | with_reducible apply Ext.drew | with_reducible apply Ext.alloc | with_reducible refine Ext.set ?_ (by first | (simp; done) | (simp; omega)) _ | with_reducible refine Ext.next ?_ (by with_reducible assumption)))⟩
  have HE := hid (under_eval ok hu (vs := ys) (n := m) (by omega) HWB.out)
  have OK := hid ok
  clear ok hu hneg
  go_wp2_with fail
  refine (specPolOk _ _ ms1 _ (HA.out.rm.ext (by repeat (first | with_reducible assumption | with_reducible exact Ext.refl _ | with_reducible apply Ext.drewN | with_reducible apply Ext.drew | with_reducible apply Ext.alloc | with_reducible refine Ext.set ?_ (by first | (simp; done) | (simp; omega)) _ | with_reducible refine Ext.next ?_ (by with_reducible assumption)))) hs1).mono ?_
  rintro e w6 ⟨rfl, hw6⟩
  rw [OK.out]
  have c5 := keep hw6 c4
  have z5 := World.block_lt_of_cell? _ _ c5
  simp only at z5
  have HY6 := hid (HY.out.ext hw6)
  clear c4
  have hk5 : ys.length ≤ k5 := own_le HY.out
  have HN5 := hid (own_nilOk HY.out)
  have hly : ys.length ≤ 8 := by have := HL.out; omega
  have HTL : Hid ((ys.take m).length = m) := hid (by rw [List.length_take]; omega)
  have hform : (A5 = none ∧ ys = [] ∧ k5 = 0) ∨ ∃ g, A5 = some ⟨g, 0, none⟩ := by
    rcases HY.out.2 with ⟨e, h0⟩ | ⟨g, cap, cur, e, _⟩
    · injection e with e1 e2 e3
      exact .inl ⟨e1, List.length_eq_zero_iff.1 e2, e3⟩
    · injection e with e1 _ _
      exact .inr ⟨g, e1⟩
  rcases hform with ⟨rfl, rfl, rfl⟩ | ⟨g, rfl⟩
  · obtain rfl : m = 0 := by simp at hgt; omega
    go_wp2_with (at_builtin; first
      | ((refine app_ints Try.underlying28 info_int rfl _ _ rfl w6.heap.size (some ⟨w6.heap.size, 0, none⟩) 0 [] (OI.ext (OI.made w6 (Nat.le_refl _)) (by repeat (first | with_reducible assumption | with_reducible exact Ext.refl _ | with_reducible apply Ext.drewN | with_reducible apply Ext.drew | with_reducible apply Ext.alloc | with_reducible refine Ext.set ?_ (by first | (simp; done) | (simp; omega)) _ | with_reducible refine Ext.next ?_ (by with_reducible assumption)))) 0 rfl rfl none 0 [] 0 rfl rfl (RI.nil _ _ _) (fun _ => rfl) 0 (by omega) (by omega) (by simp) ?_); (intro A7 k7 w7 ho7 hu7); (have HO7 := hid ho7); (have hs7 := hu7.size); (simp at hs7); (have HE7 : Hid (Ext w6 w7) := hid (((Upd.of_ext (S := fun _ => False) ((Ext.refl w6).alloc (.cells #[] 3))).far2 hu7 fun b hb => by obtain ⟨_, _, e⟩ := hb; injection e with e; injection e with e; omega).ext (fun b hb => hb.elim))); clear ho7 hu7)
      | ((refine app_ints Try.underlying28 info_int rfl _ _ rfl w6.heap.size A7 k7 [] (HO7.out.ext (by repeat (first | with_reducible assumption | with_reducible exact Ext.refl _ | with_reducible apply Ext.drewN | with_reducible apply Ext.drew | with_reducible apply Ext.alloc | with_reducible refine Ext.set ?_ (by first | (simp; done) | (simp; omega)) _ | with_reducible refine Ext.next ?_ (by with_reducible assumption)))) 0 rfl rfl (some ⟨w7.heap.size, 0, none⟩) 3 [1, 2, 3] 3 rfl rfl (Row.new 3 w7 ([1, 2, 3].map (Value.int .i64))) (fun e => by cases e) 3 rfl (by omega) (by simp; omega) ?_); (intro A8 k8 w8 ho8 hu8); (have HO8 := hid ho8); (have hs8 := hu8.size); (simp at hs8); (have HE8 : Hid (Ext w6 w8) := hid (((Upd.of_ext (S := fun _ => False) (HE7.out.alloc _)).far2 hu8 fun b hb => (own_atB HO7.out hb).1).ext (fun b hb => hb.elim))); clear ho8 hu8))
    have e68 : Ext w6 w8 := HE8.out
    have e18 : Ext w1 w8 := (by repeat (first | with_reducible assumption | with_reducible exact Ext.refl _ | with_reducible apply Ext.drewN | with_reducible apply Ext.drew | with_reducible apply Ext.alloc | with_reducible refine Ext.set ?_ (by first | (simp; done) | (simp; omega)) _ | with_reducible refine Ext.next ?_ (by with_reducible assumption)))
    have e08 : Ext w w8 := (by repeat (first | with_reducible assumption | with_reducible exact Ext.refl _ | with_reducible apply Ext.drewN | with_reducible apply Ext.drew | with_reducible apply Ext.alloc | with_reducible refine Ext.set ?_ (by first | (simp; done) | (simp; omega)) _ | with_reducible refine Ext.next ?_ (by with_reducible assumption)))
    have HE6 := hid (HY6.out.ri.ext HE8.out)
    have c8 := keep HE8.out c5
    have z8 := World.block_lt_of_cell? _ _ c8
    simp only at z8
    clear c5 z5
    have hr8 := HO8.out.ri
    rw [List.nil_append] at hr8
    have HR8 := hid hr8
    have he0 := HE.out
    rw [List.take_nil, List.nil_append] at he0
    have HE0 := hid he0
    clear HE HO8 HO7 hr8 he0
    go_wp2
    go_region_held3 (fun w' => w'.cell? ⟨w1.heap.size, 0, none⟩ = some (.slice A1 ms1.length k1)) (first | ((repeat (first | with_reducible assumption | with_reducible refine keep (Ext.alloc (Ext.refl _) _) ?_ | with_reducible refine keep (Ext.drew (Ext.refl _)) ?_ | with_reducible refine keep (Ext.drewN (Ext.refl _) _) ?_ | with_reducible refine keep (by with_reducible assumption) ?_)); done)) (first
      | (go_at_call_of 20 (Value.slice A8 3 k8); (refine (implPolEval_v _ _ _ _ 3 ms1 [1, 2, 3] _ (HA.out.rm.ext (by repeat (first | with_reducible assumption | with_reducible exact Ext.refl _ | with_reducible apply Ext.drewN | with_reducible apply Ext.drew | with_reducible apply Ext.alloc | with_reducible refine Ext.set ?_ (by first | (simp; done) | (simp; omega)) _ | with_reducible refine Ext.next ?_ (by with_reducible assumption)))) hs1 (HR8.out.ext (by repeat (first | with_reducible assumption | with_reducible exact Ext.refl _ | with_reducible apply Ext.drewN | with_reducible apply Ext.drew | with_reducible apply Ext.alloc | with_reducible refine Ext.set ?_ (by first | (simp; done) | (simp; omega)) _ | with_reducible refine Ext.next ?_ (by with_reducible assumption)))) rfl (by decide) HE0.out).mono ?_); (rintro e w9 ⟨rfl, hw9⟩))
      | (go_at_call 20; (refine (implPolEval_v _ _ _ _ 0 ms1 [] _ (HA.out.rm.ext (by repeat (first | with_reducible assumption | with_reducible exact Ext.refl _ | with_reducible apply Ext.drewN | with_reducible apply Ext.drew | with_reducible apply Ext.alloc | with_reducible refine Ext.set ?_ (by first | (simp; done) | (simp; omega)) _ | with_reducible refine Ext.next ?_ (by with_reducible assumption)))) hs1 (HE6.out.ext (by repeat (first | with_reducible assumption | with_reducible exact Ext.refl _ | with_reducible apply Ext.drewN | with_reducible apply Ext.drew | with_reducible apply Ext.alloc | with_reducible refine Ext.set ?_ (by first | (simp; done) | (simp; omega)) _ | with_reducible refine Ext.next ?_ (by with_reducible assumption)))) rfl (by decide) rfl).mono ?_); (rintro e w10 ⟨rfl, hw10⟩)))
    all_goals
      go_wp2
      go_ret
      exact ⟨rfl, (by repeat (first | with_reducible assumption | with_reducible exact Ext.refl _ | with_reducible apply Ext.drewN | with_reducible apply Ext.drew | with_reducible apply Ext.alloc | with_reducible refine Ext.set ?_ (by first | (simp; done) | (simp; omega)) _ | with_reducible refine Ext.next ?_ (by with_reducible assumption)))⟩
  go_wp2_with (at_builtin; first
    | ((refine app_ints Try.underlying28 info_int rfl _ _ rfl w6.heap.size (some ⟨w6.heap.size, 0, none⟩) 0 [] (OI.ext (OI.made w6 (Nat.le_refl _)) (by repeat (first | with_reducible assumption | with_reducible exact Ext.refl _ | with_reducible apply Ext.drewN | with_reducible apply Ext.drew | with_reducible apply Ext.alloc | with_reducible refine Ext.set ?_ (by first | (simp; done) | (simp; omega)) _ | with_reducible refine Ext.next ?_ (by with_reducible assumption)))) 0 rfl rfl (some ⟨g, 0, none⟩) k5 (ys.take m) m HTL.out rfl ((RI.take_ HY6.out.ri m).ext (by repeat (first | with_reducible assumption | with_reducible exact Ext.refl _ | with_reducible apply Ext.drewN | with_reducible apply Ext.drew | with_reducible apply Ext.alloc | with_reducible refine Ext.set ?_ (by first | (simp; done) | (simp; omega)) _ | with_reducible refine Ext.next ?_ (by with_reducible assumption)))) HN5.out m (by omega) (by omega) (by simp) ?_); (intro A7 k7 w7 ho7 hu7); (have HO7 := hid ho7); (have hs7 := hu7.size); (simp at hs7); (have HE7 : Hid (Ext w6 w7) := hid (((Upd.of_ext (S := fun _ => False) ((Ext.refl w6).alloc (.cells #[] 3))).far2 hu7 fun b hb => by obtain ⟨_, _, e⟩ := hb; injection e with e; injection e with e; omega).ext (fun b hb => hb.elim))); clear ho7 hu7)
    | ((refine app_ints Try.underlying28 info_int rfl _ _ rfl w6.heap.size A7 k7 (ys.take m) (HO7.out.ext (by repeat (first | with_reducible assumption | with_reducible exact Ext.refl _ | with_reducible apply Ext.drewN | with_reducible apply Ext.drew | with_reducible apply Ext.alloc | with_reducible refine Ext.set ?_ (by first | (simp; done) | (simp; omega)) _ | with_reducible refine Ext.next ?_ (by with_reducible assumption)))) m HTL.out rfl (some ⟨w7.heap.size, 0, none⟩) 3 [1, 2, 3] 3 rfl rfl (Row.new 3 w7 ([1, 2, 3].map (Value.int .i64))) (fun e => by cases e) (m + 3) rfl (by omega) (by simp; omega) ?_); (intro A8 k8 w8 ho8 hu8); (have HO8 := hid ho8); (have hs8 := hu8.size); (simp at hs8); (have HE8 : Hid (Ext w6 w8) := hid (((Upd.of_ext (S := fun _ => False) (HE7.out.alloc _)).far2 hu8 fun b hb => (own_atB HO7.out hb).1).ext (fun b hb => hb.elim))); clear ho8 hu8))
  have e68 : Ext w6 w8 := HE8.out
  have e18 : Ext w1 w8 := (by repeat (first | with_reducible assumption | with_reducible exact Ext.refl _ | with_reducible apply Ext.drewN | with_reducible apply Ext.drew | with_reducible apply Ext.alloc | with_reducible refine Ext.set ?_ (by first | (simp; done) | (simp; omega)) _ | with_reducible refine Ext.next ?_ (by with_reducible assumption)))
  have e08 : Ext w w8 := (by repeat (first | with_reducible assumption | with_reducible exact Ext.refl _ | with_reducible apply Ext.drewN | with_reducible apply Ext.drew | with_reducible apply Ext.alloc | with_reducible refine Ext.set ?_ (by first | (simp; done) | (simp; omega)) _ | with_reducible refine Ext.next ?_ (by with_reducible assumption)))
  have HE6 := hid (HY6.out.ri.ext HE8.out)
  have c8 := keep HE8.out c5
  have z8 := World.block_lt_of_cell? _ _ c8
  simp only at z8
  clear c5 z5
  obtain ⟨ee, hee⟩ : ∃ e, polEval (ms1.map Mn.dat) ys = e := ⟨_, rfl⟩
  obtain ⟨n8, hn8⟩ : ∃ n, m + 3 = n := ⟨_, rfl⟩
  obtain ⟨G, hG⟩ : ∃ G, some (⟨g, 0, none⟩ : Addr) = G := ⟨_, rfl⟩
  have HT1 : Hid (∀ wx, Ext w8 wx → Calls Try.prog 20 #[.agg #[.slice A1 ms1.length k1], .slice A8 n8 k8] wx fun e w' => e = .returned (.int .i64 ee) ∧ Ext wx w') := hid fun wx hx => implPolEval_v A1 A8 k1 k8 n8 ms1 (ys.take m ++ [1, 2, 3]) wx (HA.out.rm.ext (e18.next hx)) hs1 (HO8.out.ri.ext hx) (by rw [← hn8, List.length_append, HTL.out] <;> rfl) (by simp; omega) (HE.out.trans hee)
  have HT2 : Hid (∀ wx, Ext w8 wx → Calls Try.prog 20 #[.agg #[.slice A1 ms1.length k1], .slice G ys.length k5] wx fun e w' => e = .returned (.int .i64 ee) ∧ Ext wx w') := hid fun wx hx => implPolEval_v A1 G k1 k5 ys.length ms1 ys wx (HA.out.rm.ext (e18.next hx)) hs1 (by rw [← hG]; exact HE6.out.ext hx) rfl (by omega) hee
  rw [hn8, hG]
  clear hee HE6 HO8 HE HTL HN5 HY6 hn8 hG
  go_wp2
  go_region_held3 (fun w' => w'.cell? ⟨w1.heap.size, 0, none⟩ = some (.slice A1 ms1.length k1)) (first | ((repeat (first | with_reducible assumption | with_reducible refine keep (Ext.alloc (Ext.refl _) _) ?_ | with_reducible refine keep (Ext.drew (Ext.refl _)) ?_ | with_reducible refine keep (Ext.drewN (Ext.refl _) _) ?_ | with_reducible refine keep (by with_reducible assumption) ?_)); done)) (first
    | (go_at_call_of 20 (Value.slice A8 n8 k8); (refine (HT1.out _ (by repeat (first | with_reducible assumption | with_reducible exact Ext.refl _ | with_reducible apply Ext.drewN | with_reducible apply Ext.drew | with_reducible apply Ext.alloc | with_reducible refine Ext.set ?_ (by first | (simp; done) | (simp; omega)) _ | with_reducible refine Ext.next ?_ (by with_reducible assumption)))).mono ?_); (rintro e w9 ⟨rfl, hw9⟩))
    | (go_at_call_of 20 (Value.slice G ys.length k5); (refine (HT2.out _ (by repeat (first | with_reducible assumption | with_reducible exact Ext.refl _ | with_reducible apply Ext.drewN | with_reducible apply Ext.drew | with_reducible apply Ext.alloc | with_reducible refine Ext.set ?_ (by first | (simp; done) | (simp; omega)) _ | with_reducible refine Ext.next ?_ (by with_reducible assumption)))).mono ?_); (rintro e w10 ⟨rfl, hw10⟩)))
  all_goals
    go_wp2
    go_ret
    exact ⟨rfl, (by repeat (first | with_reducible assumption | with_reducible exact Ext.refl _ | with_reducible apply Ext.drewN | with_reducible apply Ext.drew | with_reducible apply Ext.alloc | with_reducible refine Ext.set ?_ (by first | (simp; done) | (simp; omega)) _ | with_reducible refine Ext.next ?_ (by with_reducible assumption)))⟩

set_option maxRecDepth 100000 in
theorem lifted (os : Os) (started : os.Started) (H : Type) (enc : TypeId × Value → H) :
    ReturnsInHanded {} Try.checked os 6 .any (Rows.fnPolUnderSpec.pre6 enc Try.prog Try.f6 Rows.fnPolUnderRow.domain false) (Rows.fnPolUnderSpec.post enc Try.prog Try.f6 false true false false) := by
  refine returnsInHanded_of_change (C := Try.checked) ownKnob_ started (by kernel_rfl) Try.func6
    (ChangeSpec.witness6 (enc := enc) (C := Try.checked) false ⟨#[], #[.slice none 0 0, .slice none 0 0], []⟩ 8 (by kernel_rfl) (by kernel_rfl) (by kernel_rfl) (by kernel_rfl)) ?_
  intro W base args ds gs before hval0 hW hcnd _
  have hval : ∀ (j : Nat) t v, Try.f6.params[j]? = some t → args[j]? = some v → Value.okWide Try.prog W .any base t v := hval0
  have hW' := hW
  obtain ⟨p, q, hA0, hV, rfl, hfz, hnd⟩ := hW
  have hA : DataW.TrodAll enc Try.prog W 0 (fun _ => true) true Try.f6.params.toList args.toList ds p := hA0
  rw [Try.params6] at hA hval
  obtain ⟨v0, vs0, d0, ds0, p0, q0, hargs, rfl, rfl, g0, r0⟩ := trodAll_cons hA
  obtain ⟨v1, vs1, d1, ds1, p1, q1, rfl, rfl, rfl, g1, r1⟩ := trodAll_cons r0
  obtain ⟨rfl, rfl, rfl⟩ := trodAll_nil r1
  obtain rfl : args = #[v0, v1] := by cases args; simp_all
  obtain ⟨rfl, rfl⟩ := trodVars_none hV
  have lt0 : ∀ x ∈ p0, x.block < W.heap.size := by obtain ⟨m, hm⟩ := g0; exact DataW.trod_lt m _ _ _ hm
  obtain ⟨A0, k0, bs0, e0, h0, s0⟩ := read_bytes (hval 0 22 v0 rfl rfl) g0
  subst e0
  have lt1 : ∀ x ∈ p1, x.block < W.heap.size := by obtain ⟨m, hm⟩ := g1; exact DataW.trod_lt m _ _ _ hm
  obtain ⟨A1, k1, bs1, e1, h1, s1⟩ := read_bytes (hval 1 22 v1 rfl rfl) g1
  subst e1
  clear hA0 hval0
  refine (walk A0 k0 bs0 A1 k1 bs1 W h0 s0 h1 s1).mono fun e W' ⟨he, bel⟩ => ?_
  subst he
  exact ⟨_, rfl, _, _, _, [], _, [], hW', trodAll_mk1 (shut_bool Try.underlying4 _), (trodAll_cons_mk (Below.trod laidOut_ (by kernel_rfl) (of_decide_eq_true (by kernel_rfl)) g0 bel.out lt0) (trodAll_cons_mk (Below.trod laidOut_ (by kernel_rfl) (of_decide_eq_true (by kernel_rfl)) g1 bel.out lt1) trodAll_mk0)), rfl, bel.out.frame _, fun h => by cases h⟩
theorem cf0 : (fun (P : Program) (f : FuncId) (fn : Func) (s : ChangeSpec) (c : OpenClaim) => (c.wf (OpenSpec.ofChange s) : Bool)) Try.prog 6 Try.f6 Rows.fnPolUnderSpec Rows.fnPolUnderRow = true := by kernel_rfl
theorem cf3 : (fun (P : Program) (f : FuncId) (fn : Func) (s : ChangeSpec) (c : OpenClaim) => (fn.params.all (P.readableRec ·) : Bool)) Try.prog 6 Try.f6 Rows.fnPolUnderSpec Rows.fnPolUnderRow = true := by kernel_rfl
theorem cf4 : (fun (P : Program) (f : FuncId) (fn : Func) (s : ChangeSpec) (c : OpenClaim) => (namedTie P c.named s.vars : Bool)) Try.prog 6 Try.f6 Rows.fnPolUnderSpec Rows.fnPolUnderRow = true := by kernel_rfl
theorem cf5 : (fun (P : Program) (f : FuncId) (fn : Func) (s : ChangeSpec) (c : OpenClaim) => ((c.stops == []) : Bool)) Try.prog 6 Try.f6 Rows.fnPolUnderSpec Rows.fnPolUnderRow = true := by kernel_rfl
theorem cf7 : (fun (P : Program) (f : FuncId) (fn : Func) (s : ChangeSpec) (c : OpenClaim) => ((c.knobs == []) : Bool)) Try.prog 6 Try.f6 Rows.fnPolUnderSpec Rows.fnPolUnderRow = true := by kernel_rfl
theorem cf9 : (fun (P : Program) (f : FuncId) (fn : Func) (s : ChangeSpec) (c : OpenClaim) => ((c.inPlace == P.inPlace f) : Bool)) Try.prog 6 Try.f6 Rows.fnPolUnderSpec Rows.fnPolUnderRow = true := by kernel_rfl
theorem cf10 : (fun (P : Program) (f : FuncId) (fn : Func) (s : ChangeSpec) (c : OpenClaim) => ((c.unfollowed == P.unfollowed f) : Bool)) Try.prog 6 Try.f6 Rows.fnPolUnderSpec Rows.fnPolUnderRow = true := by kernel_rfl
theorem cf11 : (fun (P : Program) (f : FuncId) (fn : Func) (s : ChangeSpec) (c : OpenClaim) => ((c.recurses == P.recurses f) : Bool)) Try.prog 6 Try.f6 Rows.fnPolUnderSpec Rows.fnPolUnderRow = true := by kernel_rfl
theorem cf12 : (fun (P : Program) (f : FuncId) (fn : Func) (s : ChangeSpec) (c : OpenClaim) => ((c.named == P.varsNamed f) : Bool)) Try.prog 6 Try.f6 Rows.fnPolUnderSpec Rows.fnPolUnderRow = true := by kernel_rfl
theorem cf13 : (fun (P : Program) (f : FuncId) (fn : Func) (s : ChangeSpec) (c : OpenClaim) => ((c.maps == (fn.params.toList ++ s.plain.varTypes P).any (P.mapsRec ·)) : Bool)) Try.prog 6 Try.f6 Rows.fnPolUnderSpec Rows.fnPolUnderRow = true := by kernel_rfl
theorem cf14 : (fun (P : Program) (f : FuncId) (fn : Func) (s : ChangeSpec) (c : OpenClaim) => ((c.ifaces == (fn.params.toList ++ s.plain.varTypes P).any (P.ifacesRec ·)) : Bool)) Try.prog 6 Try.f6 Rows.fnPolUnderSpec Rows.fnPolUnderRow = true := by kernel_rfl
theorem cf15 : (fun (P : Program) (f : FuncId) (fn : Func) (s : ChangeSpec) (c : OpenClaim) => ((c.mapsOut == P.mapsAmong fn.resultTypes.toList) : Bool)) Try.prog 6 Try.f6 Rows.fnPolUnderSpec Rows.fnPolUnderRow = true := by kernel_rfl
theorem cf16 : (fun (P : Program) (f : FuncId) (fn : Func) (s : ChangeSpec) (c : OpenClaim) => ((c.loops == (fn.params.toList ++ s.plain.varTypes P).any (P.loopsFrom ·)) : Bool)) Try.prog 6 Try.f6 Rows.fnPolUnderSpec Rows.fnPolUnderRow = true := by kernel_rfl
theorem cf17 : (fun (P : Program) (f : FuncId) (fn : Func) (s : ChangeSpec) (c : OpenClaim) => ((c.wideKeys == (fn.params.toList ++ s.plain.varTypes P ++ fn.resultTypes.toList).any (P.wideKeysFrom ·)) : Bool)) Try.prog 6 Try.f6 Rows.fnPolUnderSpec Rows.fnPolUnderRow = true := by kernel_rfl
theorem cf18 : (fun (P : Program) (f : FuncId) (fn : Func) (s : ChangeSpec) (c : OpenClaim) => (s.vars.all (P.varReadable ·) : Bool)) Try.prog 6 Try.f6 Rows.fnPolUnderSpec Rows.fnPolUnderRow = true := by kernel_rfl
theorem cf19 : (fun (P : Program) (f : FuncId) (fn : Func) (s : ChangeSpec) (c : OpenClaim) => (fn.resultTypes.all (fun t => P.readableRec t && decide (t < P.types.size)) : Bool)) Try.prog 6 Try.f6 Rows.fnPolUnderSpec Rows.fnPolUnderRow = true := by kernel_rfl
theorem cf20 : (fun (P : Program) (f : FuncId) (fn : Func) (s : ChangeSpec) (c : OpenClaim) => ((c.ifacesOut == fn.resultTypes.toList.any (P.ifacesRec ·)) : Bool)) Try.prog 6 Try.f6 Rows.fnPolUnderSpec Rows.fnPolUnderRow = true := by kernel_rfl
theorem cf21 : (fun (P : Program) (f : FuncId) (fn : Func) (s : ChangeSpec) (c : OpenClaim) => ((c.loopsOut == fn.resultTypes.toList.any (P.loopsFrom ·)) : Bool)) Try.prog 6 Try.f6 Rows.fnPolUnderSpec Rows.fnPolUnderRow = true := by kernel_rfl
theorem cf23 : (fun (P : Program) (f : FuncId) (fn : Func) (s : ChangeSpec) (c : OpenClaim) => (c.shortTexts.isNone : Bool)) Try.prog 6 Try.f6 Rows.fnPolUnderSpec Rows.fnPolUnderRow = true := by kernel_rfl
theorem cf28 : (fun (P : Program) (f : FuncId) (fn : Func) (s : ChangeSpec) (c : OpenClaim) => ((c.kinds == (if c.domain.isEmpty then [] else fn.params.toList.map fun t => match P.underlying t with | some (.int k) => some k | _ => none)) : Bool)) Try.prog 6 Try.f6 Rows.fnPolUnderSpec Rows.fnPolUnderRow = true := by kernel_rfl
theorem cf29 : (fun (P : Program) (f : FuncId) (fn : Func) (s : ChangeSpec) (c : OpenClaim) => ((c.pinned == c.pinnedBy) : Bool)) Try.prog 6 Try.f6 Rows.fnPolUnderSpec Rows.fnPolUnderRow = true := by kernel_rfl
theorem cf30 : (fun (P : Program) (f : FuncId) (fn : Func) (s : ChangeSpec) (c : OpenClaim) => ((c.veiled == (fn.params.toList ++ s.plain.varTypes P ++ fn.resultTypes.toList).any (P.veiledRec ·)) : Bool)) Try.prog 6 Try.f6 Rows.fnPolUnderSpec Rows.fnPolUnderRow = true := by kernel_rfl
theorem cf31 : (fun (P : Program) (f : FuncId) (fn : Func) (s : ChangeSpec) (c : OpenClaim) => (c.veiledFits P fn.params.toList (fn.params.toList ++ s.plain.varTypes P ++ fn.resultTypes.toList) : Bool)) Try.prog 6 Try.f6 Rows.fnPolUnderSpec Rows.fnPolUnderRow = true := by kernel_rfl

set_option maxRecDepth 100000 in
theorem closed : joinedFacts Try.prog 6 Try.f6 Rows.fnPolUnderSpec Rows.fnPolUnderRow = true := by
  unfold joinedFacts
  exact (band (band (band (band (band (band (band (band (band (band (band (band (band (band (band (band (band (band (band (band (band (band (band (band (band (band (band (band (band (band (band cf0 pf1) pf2) cf3) cf4) cf5) pf6) cf7) pf8) cf9) cf10) cf11) cf12) cf13) cf14) cf15) cf16) cf17) cf18) cf19) cf20) cf21) pf22) cf23) pf24) pf25) pf26) pf27) cf28) cf29) cf30) cf31)
theorem inst : Try.f6.isInstance Try.prog Rows.fnPolUnderRow.origin Rows.fnPolUnderRow.targs := of_decide_eq_true (by kernel_rfl)
theorem wrap_ : Try.f6.isWrapper Try.prog Rows.fnPolUnderRow.wrapper Rows.fnPolUnderRow.mainSum := by
  unfold Func.isWrapper
  rw [if_neg (by decide +kernel)]
  exact ⟨rfl, rfl⟩

theorem over : Rows.fnPolUnderRow.holds Try.pinned (OpenSpec.ofChange Rows.fnPolUnderSpec) :=
  OpenClaim.holds_of_wide 6 Try.f6 rfl rfl rfl rfl rfl rfl rfl ⟨rfl, rfl, rfl, rfl, rfl⟩ rfl rfl rfl rfl rfl (by as_aux_lemma => kernel_rfl) Try.func6 closed inst wrap_
    (fun os started H enc _ => lifted os started H enc)

theorem proved : Rows.FnPolUnderSaid := over
#print axioms proved
end Go.Proofs.Ytcgelcaepkakaaa.fnPolUnder
