/- The law FnInsTake: of an instruction that is ok InsTake of InsPut is that; and of a word that says one InsPut of it is the word. Conditions: none. -/
import Derived.Test.YtabbjnamlkphmaaDoorRows
import Derived.WalkKit
import Derived.ProofKit
import Derived.OpenShut
import Derived.ShutString
import Derived.ChangeOld
import Derived.Below
import Derived.Carry
import Derived.Test.YtabbjnamlkphmaaDoorF
import Derived.Test.YtabbjnamlkphmaaDoorK
import Derived.Test.YtabbjnamlkphmaaDoorTie
import Derived.Test.YtabbjnamlkphmaaDoorCards
import Derived.SevenTiedAt
import Derived.Test.YtabbjnamlkphmaaDoorDI
namespace Go.Proofs.YtabbjnamlkphmaaDoor.fnInsTake
open Go.ChangeShapes Go.WideShapes Go.ChangeAt Go.RowKit
set_option linter.unusedVariables false
set_option linter.unusedSimpArgs false

set_option maxRecDepth 100000 in
set_option maxHeartbeats 2000000 in
theorem walk (A0 : Option Addr) (k0 : Nat) (bs0 : List Int) (A1 : Option Addr) (k1 : Nat) (bs1 : List Int) (w : World) (hF : LaidAt w) (h0 : AB w A0 bs0) (s0 : bs0.length ≤ 9223372036854775807 ∧ bs0.length ≤ k0) (h1 : AB w A1 bs1) (s1 : bs1.length ≤ 9223372036854775807 ∧ bs1.length ≤ k1) :
    Calls Tryd.prog 8 #[.slice A0 bs0.length k0, .slice A1 bs1.length k1] w fun e w' => e = .returned (.bool true) ∧ Ext w w' := by
  by_cases hz : (1048576 : Int) < bs0.length
  · go_enter Tryd.func8, Tryd.ntmps8
    go_wp2
    go_ret
    exact ⟨rfl, (by repeat (first | with_reducible assumption | with_reducible exact Ext.refl _ | with_reducible apply Ext.drewN | with_reducible apply Ext.drew | with_reducible apply Ext.alloc | with_reducible refine Ext.set ?_ (by first | (simp; done) | (simp; omega)) _ | with_reducible refine Ext.next ?_ (by with_reducible assumption)))⟩
  by_cases hy : (1048576 : Int) < bs1.length
  · go_enter Tryd.func8, Tryd.ntmps8
    go_wp2
    go_ret
    exact ⟨rfl, (by repeat (first | with_reducible assumption | with_reducible exact Ext.refl _ | with_reducible apply Ext.drewN | with_reducible apply Ext.drew | with_reducible apply Ext.alloc | with_reducible refine Ext.set ?_ (by first | (simp; done) | (simp; omega)) _ | with_reducible refine Ext.next ?_ (by with_reducible assumption)))⟩
  go_enter Tryd.func8, Tryd.ntmps8
  go_wp2_with fail
  refine (drawInsPut _ _ _ _ h0 s0.1 s0.2).mono ?_
  rintro e w1 ⟨⟨xo, xd, xa, xk⟩, rfl, hw1⟩
  go_wp2_with fail
  refine (drawInsTake _ _ _ _ (h1.ext (by repeat (first | with_reducible assumption | with_reducible exact Ext.refl _ | with_reducible apply Ext.drewN | with_reducible apply Ext.drew | with_reducible apply Ext.alloc | with_reducible refine Ext.set ?_ (by first | (simp; done) | (simp; omega)) _ | with_reducible refine Ext.next ?_ (by with_reducible assumption)))) s1.1 s1.2).mono ?_
  rintro e w2 ⟨n, rfl, hn, hw2⟩
  have LX := hid (L4.ext (x := ⟨xo, xd, xa, xk⟩) (b := w1.heap.size) (w := w1.alloc (.cells #[.int .i64 xo, .int .i64 xd, .int .i64 xa, .int .i64 xk] 25)) ⟨⟨by go_simp, by go_simp, by go_simp, by go_simp⟩, fun i => by go_simp⟩ hw2)
  have F2 := hF.ext (show Ext w w2 from (by repeat (first | with_reducible assumption | with_reducible exact Ext.refl _ | with_reducible apply Ext.drewN | with_reducible apply Ext.drew | with_reducible apply Ext.alloc | with_reducible refine Ext.set ?_ (by first | (simp; done) | (simp; omega)) _ | with_reducible refine Ext.next ?_ (by with_reducible assumption))))
  have HN := hid hn
  clear hn
  obtain ⟨⟨⟨to, td, ta, tq⟩, tok⟩, hr⟩ : ∃ r, insTake n = r := ⟨_, rfl⟩
  have HR := hid hr
  have HG : Hid (tok = true → insOk to td ta tq = true ∧ insPut to td ta tq = n) := hid fun e => by
    cases ht : takeOk n
    · rw [insTake_no ht] at hr
      injection hr with _ h2
      rw [← h2] at e
      cases e
    · rw [insTake_yes ht] at hr
      injection hr with h1 _
      have := put_take ht
      rw [h1] at this
      exact this
  clear hr
  go_wp2_with fail
  refine (implInsTake _ _ (F2.ext (by repeat (first | with_reducible assumption | with_reducible exact Ext.refl _ | with_reducible apply Ext.drewN | with_reducible apply Ext.drew | with_reducible apply Ext.alloc | with_reducible refine Ext.set ?_ (by first | (simp; done) | (simp; omega)) _ | with_reducible refine Ext.next ?_ (by with_reducible assumption))))).mono ?_
  rintro e w3 ⟨rfl, hw3⟩
  rw [HR.out]
  unfold retTake In4.val
  go_wp2_with fail
  refine (specInsTake _ _).mono ?_
  rintro e w4 ⟨rfl, hw4⟩
  rw [HR.out]
  unfold retTake In4.val
  have LT := hid (L4.ext (x := ⟨to, td, ta, tq⟩) (b := w3.heap.size) (w := w3.alloc (.cells #[.int .i64 to, .int .i64 td, .int .i64 ta, .int .i64 tq] 25)) ⟨⟨by go_simp, by go_simp, by go_simp, by go_simp⟩, fun i => by go_simp⟩ hw4)
  have e34 : Ext w2 w4 := (by repeat (first | with_reducible assumption | with_reducible exact Ext.refl _ | with_reducible apply Ext.drewN | with_reducible apply Ext.drew | with_reducible apply Ext.alloc | with_reducible refine Ext.set ?_ (by first | (simp; done) | (simp; omega)) _ | with_reducible refine Ext.next ?_ (by with_reducible assumption)))
  have LX4 := hid (LX.out.ext e34)
  have F4 := F2.ext e34
  obtain ⟨⟨c0, c1, c2, c3⟩, _⟩ := LX4.out
  obtain ⟨⟨d0, d1, d2, d3⟩, _⟩ := LT.out
  have zx := World.block_lt_of_cell? _ _ c0
  have zt := World.block_lt_of_cell? _ _ d0
  simp only at zx zt
  clear LX F2
  go_wp2
  refine wp_region_over (by kernel_rfl) (by kernel_rfl) ?_
  repeat (go_big_quiet_step ((first | (go_at_call 14; exact calls_over (implInsPut _ _ _ _ _ ((F4.ext (by repeat (first | with_reducible assumption | with_reducible exact Ext.refl _ | with_reducible apply Ext.drewN | with_reducible apply Ext.drew | with_reducible apply Ext.alloc | with_reducible refine Ext.set ?_ (by first | (simp; done) | (simp; omega)) _ | with_reducible refine Ext.next ?_ (by with_reducible assumption)))).ext (Over.ext _)))) | (go_at_call 13; exact calls_over (specInsPut _ _ _ _ _)))))
  refine wpQuiet_nil ?_
  rintro wq ⟨⟨_, hwq⟩, rfl⟩
  have e4q : Ext w4 wq := (by repeat (first | with_reducible assumption | with_reducible exact Ext.refl _ | with_reducible apply Ext.drewN | with_reducible apply Ext.drew | with_reducible apply Ext.alloc | with_reducible refine Ext.set ?_ (by first | (simp; done) | (simp; omega)) _ | with_reducible refine Ext.next ?_ (by with_reducible assumption)))
  have F5 := F4.ext e4q
  have LX5 := hid (LX4.out.ext e4q)
  have LT5 := hid (LT.out.ext e4q)
  clear c0 c1 c2 c3 d0 d1 d2 d3 zx zt F4 LX4 LT e34
  cases tok
  · obtain ⟨w6, hw6⟩ : ∃ w6, w6 = wq := ⟨_, rfl⟩
    subst hw6
    have LX6 := LX5
    have F6 := F5
    cases hx : insOk xo xd xa xk
    · have HX := hid hx
      have HP := hid (show insPut xo xd xa xk = 0 by unfold insPut; rw [hx]; rfl)
      clear hx
      obtain ⟨⟨c0, c1, c2, c3⟩, _⟩ := LX6.out
      have zx := World.block_lt_of_cell? _ _ c0
      simp only at zx
      go_wp2_with fail
      refine (specInsOk _ _ _ _ _).mono ?_
      rintro e w7 ⟨rfl, hw7⟩
      rw [HX.out]
      obtain ⟨⟨b0, b1, b2, b3⟩, _⟩ := LX6.out.ext hw7
      have F7 := F6.ext hw7
      go_wp2_with fail
      refine (implInsPut _ _ _ _ _ (F7.ext (by repeat (first | with_reducible assumption | with_reducible exact Ext.refl _ | with_reducible apply Ext.drewN | with_reducible apply Ext.drew | with_reducible apply Ext.alloc | with_reducible refine Ext.set ?_ (by first | (simp; done) | (simp; omega)) _ | with_reducible refine Ext.next ?_ (by with_reducible assumption))))).mono ?_
      rintro e w8 ⟨rfl, hw8⟩
      rw [HP.out]
      have e78 : Ext w7 w8 := (by repeat (first | with_reducible assumption | with_reducible exact Ext.refl _ | with_reducible apply Ext.drewN | with_reducible apply Ext.drew | with_reducible apply Ext.alloc | with_reducible refine Ext.set ?_ (by first | (simp; done) | (simp; omega)) _ | with_reducible refine Ext.next ?_ (by with_reducible assumption)))
      have a0 := keep e78 b0
      have a1 := keep e78 b1
      have a2 := keep e78 b2
      have a3 := keep e78 b3
      go_wp2_with fail
      refine (implInsOk _ _ _ _ _ (F7.ext (by repeat (first | with_reducible assumption | with_reducible exact Ext.refl _ | with_reducible apply Ext.drewN | with_reducible apply Ext.drew | with_reducible apply Ext.alloc | with_reducible refine Ext.set ?_ (by first | (simp; done) | (simp; omega)) _ | with_reducible refine Ext.next ?_ (by with_reducible assumption))))).mono ?_
      rintro e w9 ⟨rfl, hw9⟩
      rw [HX.out]
      go_wp2_with (go_at_call 31; refine (laOk_ _).mono ?_; rintro e w' ⟨rfl, rfl⟩)
      go_ret
      exact ⟨rfl, (by repeat (first | with_reducible assumption | with_reducible exact Ext.refl _ | with_reducible apply Ext.drewN | with_reducible apply Ext.drew | with_reducible apply Ext.alloc | with_reducible refine Ext.set ?_ (by first | (simp; done) | (simp; omega)) _ | with_reducible refine Ext.next ?_ (by with_reducible assumption)))⟩
    · obtain ⟨hp1, hp2⟩ := take_put hx
      have HX := hid hx
      have HP := hid (show insTake (insPut xo xd xa xk) = (⟨xo, xd, xa, xk⟩, true) by rw [insTake_yes hp1, hp2])
      have HW := hid (show wrdOk (insPut xo xd xa xk) = true by unfold takeOk at hp1; rw [Bool.and_eq_true] at hp1; exact hp1.1)
      clear hx hp1 hp2
      obtain ⟨⟨c0, c1, c2, c3⟩, _⟩ := LX6.out
      have zx := World.block_lt_of_cell? _ _ c0
      simp only at zx
      go_wp2_with fail
      refine (specInsOk _ _ _ _ _).mono ?_
      rintro e w7 ⟨rfl, hw7⟩
      rw [HX.out]
      obtain ⟨⟨b0, b1, b2, b3⟩, _⟩ := LX6.out.ext hw7
      have F7 := F6.ext hw7
      go_wp2_with fail
      refine (implInsPut _ _ _ _ _ (F7.ext (by repeat (first | with_reducible assumption | with_reducible exact Ext.refl _ | with_reducible apply Ext.drewN | with_reducible apply Ext.drew | with_reducible apply Ext.alloc | with_reducible refine Ext.set ?_ (by first | (simp; done) | (simp; omega)) _ | with_reducible refine Ext.next ?_ (by with_reducible assumption))))).mono ?_
      rintro e w8 ⟨rfl, hw8⟩
      go_wp2_with fail
      refine (implInsTake _ _ (F7.ext (by repeat (first | with_reducible assumption | with_reducible exact Ext.refl _ | with_reducible apply Ext.drewN | with_reducible apply Ext.drew | with_reducible apply Ext.alloc | with_reducible refine Ext.set ?_ (by first | (simp; done) | (simp; omega)) _ | with_reducible refine Ext.next ?_ (by with_reducible assumption))))).mono ?_
      rintro e w9 ⟨rfl, hw9⟩
      rw [HP.out]
      unfold retTake In4.val
      have e79 : Ext w7 w9 := (by repeat (first | with_reducible assumption | with_reducible exact Ext.refl _ | with_reducible apply Ext.drewN | with_reducible apply Ext.drew | with_reducible apply Ext.alloc | with_reducible refine Ext.set ?_ (by first | (simp; done) | (simp; omega)) _ | with_reducible refine Ext.next ?_ (by with_reducible assumption)))
      have a0 := keep e79 b0
      have a1 := keep e79 b1
      have a2 := keep e79 b2
      have a3 := keep e79 b3
      have za := World.block_lt_of_cell? _ _ a0
      simp only at za
      go_wp2_with fail
      refine (implInsPut _ _ _ _ _ (F7.ext (by repeat (first | with_reducible assumption | with_reducible exact Ext.refl _ | with_reducible apply Ext.drewN | with_reducible apply Ext.drew | with_reducible apply Ext.alloc | with_reducible refine Ext.set ?_ (by first | (simp; done) | (simp; omega)) _ | with_reducible refine Ext.next ?_ (by with_reducible assumption))))).mono ?_
      rintro e w10 ⟨rfl, hw10⟩
      go_wp2_with (go_at_call 32; refine (implWrdOk _ _).mono ?_; rintro e w' ⟨rfl, rfl⟩; rw [HW.out])
      go_ret
      exact ⟨rfl, (by repeat (first | with_reducible assumption | with_reducible exact Ext.refl _ | with_reducible apply Ext.drewN | with_reducible apply Ext.drew | with_reducible apply Ext.alloc | with_reducible refine Ext.set ?_ (by first | (simp; done) | (simp; omega)) _ | with_reducible refine Ext.next ?_ (by with_reducible assumption)))⟩
  · obtain ⟨g1, g2⟩ := HG.out rfl
    have G1 := hid g1
    have G2 := hid g2
    clear g1 g2
    obtain ⟨⟨d0, d1, d2, d3⟩, _⟩ := LT5.out
    have zt := World.block_lt_of_cell? _ _ d0
    simp only at zt
    go_wp2_with fail
    refine (implInsOk _ _ _ _ _ (F5.ext (by repeat (first | with_reducible assumption | with_reducible exact Ext.refl _ | with_reducible apply Ext.drewN | with_reducible apply Ext.drew | with_reducible apply Ext.alloc | with_reducible refine Ext.set ?_ (by first | (simp; done) | (simp; omega)) _ | with_reducible refine Ext.next ?_ (by with_reducible assumption))))).mono ?_
    rintro e w5 ⟨rfl, hw5⟩
    rw [G1.out]
    obtain ⟨⟨f0, f1, f2, f3⟩, _⟩ := LT5.out.ext hw5
    go_wp2_with fail
    refine (implInsPut _ _ _ _ _ (F5.ext (by repeat (first | with_reducible assumption | with_reducible exact Ext.refl _ | with_reducible apply Ext.drewN | with_reducible apply Ext.drew | with_reducible apply Ext.alloc | with_reducible refine Ext.set ?_ (by first | (simp; done) | (simp; omega)) _ | with_reducible refine Ext.next ?_ (by with_reducible assumption))))).mono ?_
    rintro e w6 ⟨rfl, hw6⟩
    rw [G2.out]
    have eq6 : Ext wq w6 := (by repeat (first | with_reducible assumption | with_reducible exact Ext.refl _ | with_reducible apply Ext.drewN | with_reducible apply Ext.drew | with_reducible apply Ext.alloc | with_reducible refine Ext.set ?_ (by first | (simp; done) | (simp; omega)) _ | with_reducible refine Ext.next ?_ (by with_reducible assumption)))
    have LX6 := hid (LX5.out.ext eq6)
    have F6 := F5.ext eq6
    clear d0 d1 d2 d3 f0 f1 f2 f3 zt
    cases hx : insOk xo xd xa xk
    · have HX := hid hx
      have HP := hid (show insPut xo xd xa xk = 0 by unfold insPut; rw [hx]; rfl)
      clear hx
      obtain ⟨⟨c0, c1, c2, c3⟩, _⟩ := LX6.out
      have zx := World.block_lt_of_cell? _ _ c0
      simp only at zx
      go_wp2_with fail
      refine (specInsOk _ _ _ _ _).mono ?_
      rintro e w7 ⟨rfl, hw7⟩
      rw [HX.out]
      obtain ⟨⟨b0, b1, b2, b3⟩, _⟩ := LX6.out.ext hw7
      have F7 := F6.ext hw7
      go_wp2_with fail
      refine (implInsPut _ _ _ _ _ (F7.ext (by repeat (first | with_reducible assumption | with_reducible exact Ext.refl _ | with_reducible apply Ext.drewN | with_reducible apply Ext.drew | with_reducible apply Ext.alloc | with_reducible refine Ext.set ?_ (by first | (simp; done) | (simp; omega)) _ | with_reducible refine Ext.next ?_ (by with_reducible assumption))))).mono ?_
      rintro e w8 ⟨rfl, hw8⟩
      rw [HP.out]
      have e78 : Ext w7 w8 := (by repeat (first | with_reducible assumption | with_reducible exact Ext.refl _ | with_reducible apply Ext.drewN | with_reducible apply Ext.drew | with_reducible apply Ext.alloc | with_reducible refine Ext.set ?_ (by first | (simp; done) | (simp; omega)) _ | with_reducible refine Ext.next ?_ (by with_reducible assumption)))
      have a0 := keep e78 b0
      have a1 := keep e78 b1
      have a2 := keep e78 b2
      have a3 := keep e78 b3
      go_wp2_with fail
      refine (implInsOk _ _ _ _ _ (F7.ext (by repeat (first | with_reducible assumption | with_reducible exact Ext.refl _ | with_reducible apply Ext.drewN | with_reducible apply Ext.drew | with_reducible apply Ext.alloc | with_reducible refine Ext.set ?_ (by first | (simp; done) | (simp; omega)) _ | with_reducible refine Ext.next ?_ (by with_reducible assumption))))).mono ?_
      rintro e w9 ⟨rfl, hw9⟩
      rw [HX.out]
      go_wp2_with (go_at_call 31; refine (laOk_ _).mono ?_; rintro e w' ⟨rfl, rfl⟩)
      go_ret
      exact ⟨rfl, (by repeat (first | with_reducible assumption | with_reducible exact Ext.refl _ | with_reducible apply Ext.drewN | with_reducible apply Ext.drew | with_reducible apply Ext.alloc | with_reducible refine Ext.set ?_ (by first | (simp; done) | (simp; omega)) _ | with_reducible refine Ext.next ?_ (by with_reducible assumption)))⟩
    · obtain ⟨hp1, hp2⟩ := take_put hx
      have HX := hid hx
      have HP := hid (show insTake (insPut xo xd xa xk) = (⟨xo, xd, xa, xk⟩, true) by rw [insTake_yes hp1, hp2])
      have HW := hid (show wrdOk (insPut xo xd xa xk) = true by unfold takeOk at hp1; rw [Bool.and_eq_true] at hp1; exact hp1.1)
      clear hx hp1 hp2
      obtain ⟨⟨c0, c1, c2, c3⟩, _⟩ := LX6.out
      have zx := World.block_lt_of_cell? _ _ c0
      simp only at zx
      go_wp2_with fail
      refine (specInsOk _ _ _ _ _).mono ?_
      rintro e w7 ⟨rfl, hw7⟩
      rw [HX.out]
      obtain ⟨⟨b0, b1, b2, b3⟩, _⟩ := LX6.out.ext hw7
      have F7 := F6.ext hw7
      go_wp2_with fail
      refine (implInsPut _ _ _ _ _ (F7.ext (by repeat (first | with_reducible assumption | with_reducible exact Ext.refl _ | with_reducible apply Ext.drewN | with_reducible apply Ext.drew | with_reducible apply Ext.alloc | with_reducible refine Ext.set ?_ (by first | (simp; done) | (simp; omega)) _ | with_reducible refine Ext.next ?_ (by with_reducible assumption))))).mono ?_
      rintro e w8 ⟨rfl, hw8⟩
      go_wp2_with fail
      refine (implInsTake _ _ (F7.ext (by repeat (first | with_reducible assumption | with_reducible exact Ext.refl _ | with_reducible apply Ext.drewN | with_reducible apply Ext.drew | with_reducible apply Ext.alloc | with_reducible refine Ext.set ?_ (by first | (simp; done) | (simp; omega)) _ | with_reducible refine Ext.next ?_ (by with_reducible assumption))))).mono ?_
      rintro e w9 ⟨rfl, hw9⟩
      rw [HP.out]
      unfold retTake In4.val
      have e79 : Ext w7 w9 := (by repeat (first | with_reducible assumption | with_reducible exact Ext.refl _ | with_reducible apply Ext.drewN | with_reducible apply Ext.drew | with_reducible apply Ext.alloc | with_reducible refine Ext.set ?_ (by first | (simp; done) | (simp; omega)) _ | with_reducible refine Ext.next ?_ (by with_reducible assumption)))
      have a0 := keep e79 b0
      have a1 := keep e79 b1
      have a2 := keep e79 b2
      have a3 := keep e79 b3
      have za := World.block_lt_of_cell? _ _ a0
      simp only at za
      go_wp2_with fail
      refine (implInsPut _ _ _ _ _ (F7.ext (by repeat (first | with_reducible assumption | with_reducible exact Ext.refl _ | with_reducible apply Ext.drewN | with_reducible apply Ext.drew | with_reducible apply Ext.alloc | with_reducible refine Ext.set ?_ (by first | (simp; done) | (simp; omega)) _ | with_reducible refine Ext.next ?_ (by with_reducible assumption))))).mono ?_
      rintro e w10 ⟨rfl, hw10⟩
      go_wp2_with (go_at_call 32; refine (implWrdOk _ _).mono ?_; rintro e w' ⟨rfl, rfl⟩; rw [HW.out])
      go_ret
      exact ⟨rfl, (by repeat (first | with_reducible assumption | with_reducible exact Ext.refl _ | with_reducible apply Ext.drewN | with_reducible apply Ext.drew | with_reducible apply Ext.alloc | with_reducible refine Ext.set ?_ (by first | (simp; done) | (simp; omega)) _ | with_reducible refine Ext.next ?_ (by with_reducible assumption)))⟩

set_option maxRecDepth 100000 in
theorem lifted (os : Os) (started : os.Started) (H : Type) (enc : TypeId × Value → H) :
    ReturnsInHanded {} Tryd.checked os 8 .any (fun w args => (Rows.fnInsTakeSpec.pre enc Tryd.prog Tryd.f8 Rows.fnInsTakeRow.domain false w args ∧ laidMetH Tryd.prog laidL w) ∧ sizedMet enc Tryd.prog Tryd.f8 (OpenSpec.ofChange Rows.fnInsTakeSpec) false w args) (Rows.fnInsTakeSpec.post enc Tryd.prog Tryd.f8 false true false false) := by
  refine returnsInHanded_of_change_and (C := Tryd.checked) (X := fun w _ => laidMetH Tryd.prog laidL w) (fun _ _ _ hh h => h.of_heap hh) ownKnob_ started (by kernel_rfl) Tryd.func8
    (ChangeSpec.witness_shaped (enc := enc) (C := Tryd.checked) (os := os) (X := fun w _ => laidMetH Tryd.prog laidL w) false (World.doorLaid Tryd.prog 46 os) #[.slice none 0 0, .slice none 0 0] 8 rfl (World.shaped_of_RefB (by kernel_rfl) (by kernel_rfl)) (by kernel_rfl) (by kernel_rfl) (by kernel_rfl) (door_met os _)) ?_
  intro W base args ds gs before hval0 hW hcnd _ hL _
  have hval : ∀ (j : Nat) t v, Tryd.f8.params[j]? = some t → args[j]? = some v → Value.okWide Tryd.prog W .any base t v := hval0
  have hW' := hW
  obtain ⟨p, q, hA0, hV, rfl, hfz, hnd⟩ := hW
  have hA : DataW.TrodAll enc Tryd.prog W 0 (fun _ => true) true Tryd.f8.params.toList args.toList ds p := hA0
  rw [Tryd.params8] at hA hval
  obtain ⟨v0, vs0, d0, ds0, p0, q0, hargs, rfl, rfl, g0, r0⟩ := trodAll_cons hA
  obtain ⟨v1, vs1, d1, ds1, p1, q1, rfl, rfl, rfl, g1, r1⟩ := trodAll_cons r0
  obtain ⟨rfl, rfl, rfl⟩ := trodAll_nil r1
  obtain rfl : args = #[v0, v1] := by cases args; simp_all
  obtain ⟨gv, tv, csv, fuelv, dv, pv, rfl, hgv, htv, hvar, hdv, rfl⟩ := trodVars_one hV
  have hF := laidAt_of hL
  have lt0 : ∀ x ∈ p0, x.block < W.heap.size := by obtain ⟨m, hm⟩ := g0; exact DataW.trod_lt m _ _ _ hm
  obtain ⟨A0, k0, bs0, e0, h0, s0⟩ := read_bytes (hval 0 46 v0 rfl rfl) g0
  subst e0
  have lt1 : ∀ x ∈ p1, x.block < W.heap.size := by obtain ⟨m, hm⟩ := g1; exact DataW.trod_lt m _ _ _ hm
  obtain ⟨A1, k1, bs1, e1, h1, s1⟩ := read_bytes (hval 1 46 v1 rfl rfl) g1
  subst e1
  clear hA0 hval0
  refine (walk A0 k0 bs0 A1 k1 bs1 W hF h0 s0 h1 s1).mono fun e W' ⟨he, bel⟩ => ?_
  subst he
  exact ⟨_, rfl, _, _, _, [], _, _, hW', trodAll_mk1 (shut_bool Tryd.underlying4 _), (trodAll_cons_mk (Below.trod laidOut_ (by kernel_rfl) (of_decide_eq_true (by kernel_rfl)) g0 bel.out lt0) (trodAll_cons_mk (Below.trod laidOut_ (by kernel_rfl) (of_decide_eq_true (by kernel_rfl)) g1 bel.out lt1) trodAll_mk0)), (vars_again hgv htv hvar hdv bel), bel.out.frame _, fun h => by cases h⟩
theorem cf0 : (fun (P : Program) (f : FuncId) (fn : Func) (s : ChangeSpec) (c : OpenClaim) => (c.wf (OpenSpec.ofChange s) : Bool)) Tryd.prog 8 Tryd.f8 Rows.fnInsTakeSpec Rows.fnInsTakeRow = true := by kernel_rfl
theorem cf3 : (fun (P : Program) (f : FuncId) (fn : Func) (s : ChangeSpec) (c : OpenClaim) => (fn.params.all (P.readableRec ·) : Bool)) Tryd.prog 8 Tryd.f8 Rows.fnInsTakeSpec Rows.fnInsTakeRow = true := by kernel_rfl
theorem cf4 : (fun (P : Program) (f : FuncId) (fn : Func) (s : ChangeSpec) (c : OpenClaim) => (namedTie P c.named s.vars : Bool)) Tryd.prog 8 Tryd.f8 Rows.fnInsTakeSpec Rows.fnInsTakeRow = true := by kernel_rfl
theorem cf5 : (fun (P : Program) (f : FuncId) (fn : Func) (s : ChangeSpec) (c : OpenClaim) => ((c.stops == []) : Bool)) Tryd.prog 8 Tryd.f8 Rows.fnInsTakeSpec Rows.fnInsTakeRow = true := by kernel_rfl
theorem cf7 : (fun (P : Program) (f : FuncId) (fn : Func) (s : ChangeSpec) (c : OpenClaim) => ((c.knobs == []) : Bool)) Tryd.prog 8 Tryd.f8 Rows.fnInsTakeSpec Rows.fnInsTakeRow = true := by kernel_rfl
theorem cf9 : (fun (P : Program) (f : FuncId) (fn : Func) (s : ChangeSpec) (c : OpenClaim) => ((c.inPlace == P.inPlace f) : Bool)) Tryd.prog 8 Tryd.f8 Rows.fnInsTakeSpec Rows.fnInsTakeRow = true := by kernel_rfl
theorem cf10 : (fun (P : Program) (f : FuncId) (fn : Func) (s : ChangeSpec) (c : OpenClaim) => ((c.unfollowed == P.unfollowed f) : Bool)) Tryd.prog 8 Tryd.f8 Rows.fnInsTakeSpec Rows.fnInsTakeRow = true := by kernel_rfl
theorem cf11 : (fun (P : Program) (f : FuncId) (fn : Func) (s : ChangeSpec) (c : OpenClaim) => ((c.recurses == P.recurses f) : Bool)) Tryd.prog 8 Tryd.f8 Rows.fnInsTakeSpec Rows.fnInsTakeRow = true := by kernel_rfl
theorem cf12 : (fun (P : Program) (f : FuncId) (fn : Func) (s : ChangeSpec) (c : OpenClaim) => ((c.named == P.varsNamed f) : Bool)) Tryd.prog 8 Tryd.f8 Rows.fnInsTakeSpec Rows.fnInsTakeRow = true := by kernel_rfl
theorem cf13 : (fun (P : Program) (f : FuncId) (fn : Func) (s : ChangeSpec) (c : OpenClaim) => ((c.maps == (fn.params.toList ++ s.plain.varTypes P).any (P.mapsRec ·)) : Bool)) Tryd.prog 8 Tryd.f8 Rows.fnInsTakeSpec Rows.fnInsTakeRow = true := by kernel_rfl
theorem cf14 : (fun (P : Program) (f : FuncId) (fn : Func) (s : ChangeSpec) (c : OpenClaim) => ((c.ifaces == (fn.params.toList ++ s.plain.varTypes P).any (P.ifacesRec ·)) : Bool)) Tryd.prog 8 Tryd.f8 Rows.fnInsTakeSpec Rows.fnInsTakeRow = true := by kernel_rfl
theorem cf15 : (fun (P : Program) (f : FuncId) (fn : Func) (s : ChangeSpec) (c : OpenClaim) => ((c.mapsOut == P.mapsAmong fn.resultTypes.toList) : Bool)) Tryd.prog 8 Tryd.f8 Rows.fnInsTakeSpec Rows.fnInsTakeRow = true := by kernel_rfl
theorem cf16 : (fun (P : Program) (f : FuncId) (fn : Func) (s : ChangeSpec) (c : OpenClaim) => ((c.loops == (fn.params.toList ++ s.plain.varTypes P).any (P.loopsFrom ·)) : Bool)) Tryd.prog 8 Tryd.f8 Rows.fnInsTakeSpec Rows.fnInsTakeRow = true := by kernel_rfl
theorem cf17 : (fun (P : Program) (f : FuncId) (fn : Func) (s : ChangeSpec) (c : OpenClaim) => ((c.wideKeys == (fn.params.toList ++ s.plain.varTypes P ++ fn.resultTypes.toList).any (P.wideKeysFrom ·)) : Bool)) Tryd.prog 8 Tryd.f8 Rows.fnInsTakeSpec Rows.fnInsTakeRow = true := by kernel_rfl
theorem cf18 : (fun (P : Program) (f : FuncId) (fn : Func) (s : ChangeSpec) (c : OpenClaim) => (s.vars.all (P.varReadable ·) : Bool)) Tryd.prog 8 Tryd.f8 Rows.fnInsTakeSpec Rows.fnInsTakeRow = true := by kernel_rfl
theorem cf19 : (fun (P : Program) (f : FuncId) (fn : Func) (s : ChangeSpec) (c : OpenClaim) => (fn.resultTypes.all (fun t => P.readableRec t && decide (t < P.types.size)) : Bool)) Tryd.prog 8 Tryd.f8 Rows.fnInsTakeSpec Rows.fnInsTakeRow = true := by kernel_rfl
theorem cf20 : (fun (P : Program) (f : FuncId) (fn : Func) (s : ChangeSpec) (c : OpenClaim) => ((c.ifacesOut == fn.resultTypes.toList.any (P.ifacesRec ·)) : Bool)) Tryd.prog 8 Tryd.f8 Rows.fnInsTakeSpec Rows.fnInsTakeRow = true := by kernel_rfl
theorem cf21 : (fun (P : Program) (f : FuncId) (fn : Func) (s : ChangeSpec) (c : OpenClaim) => ((c.loopsOut == fn.resultTypes.toList.any (P.loopsFrom ·)) : Bool)) Tryd.prog 8 Tryd.f8 Rows.fnInsTakeSpec Rows.fnInsTakeRow = true := by kernel_rfl
theorem cf23 : (fun (P : Program) (f : FuncId) (fn : Func) (s : ChangeSpec) (c : OpenClaim) => (c.shortTexts.isNone : Bool)) Tryd.prog 8 Tryd.f8 Rows.fnInsTakeSpec Rows.fnInsTakeRow = true := by kernel_rfl
theorem cf28 : (fun (P : Program) (f : FuncId) (fn : Func) (s : ChangeSpec) (c : OpenClaim) => ((c.kinds == (if c.domain.isEmpty then [] else fn.params.toList.map fun t => match P.underlying t with | some (.int k) => some k | _ => none)) : Bool)) Tryd.prog 8 Tryd.f8 Rows.fnInsTakeSpec Rows.fnInsTakeRow = true := by kernel_rfl
theorem cf29 : (fun (P : Program) (f : FuncId) (fn : Func) (s : ChangeSpec) (c : OpenClaim) => ((c.pinned == c.pinnedBy) : Bool)) Tryd.prog 8 Tryd.f8 Rows.fnInsTakeSpec Rows.fnInsTakeRow = true := by kernel_rfl
theorem cf30 : (fun (P : Program) (f : FuncId) (fn : Func) (s : ChangeSpec) (c : OpenClaim) => ((c.veiled == (fn.params.toList ++ s.plain.varTypes P ++ fn.resultTypes.toList).any (P.veiledRec ·)) : Bool)) Tryd.prog 8 Tryd.f8 Rows.fnInsTakeSpec Rows.fnInsTakeRow = true := by kernel_rfl
theorem cf31 : (fun (P : Program) (f : FuncId) (fn : Func) (s : ChangeSpec) (c : OpenClaim) => (c.veiledFits P fn.params.toList (fn.params.toList ++ s.plain.varTypes P ++ fn.resultTypes.toList) : Bool)) Tryd.prog 8 Tryd.f8 Rows.fnInsTakeSpec Rows.fnInsTakeRow = true := by kernel_rfl

set_option maxRecDepth 100000 in
theorem closed : joinedFacts Tryd.prog 8 Tryd.f8 Rows.fnInsTakeSpec Rows.fnInsTakeRow = true := by
  unfold joinedFacts
  exact (band (band (band (band (band (band (band (band (band (band (band (band (band (band (band (band (band (band (band (band (band (band (band (band (band (band (band (band (band (band (band cf0 pf1) pf2) cf3) cf4) cf5) pf6) cf7) pf8) cf9) cf10) cf11) cf12) cf13) cf14) cf15) cf16) cf17) cf18) cf19) cf20) cf21) pf22) cf23) pf24) pf25) pf26) pf27) cf28) cf29) cf30) cf31)
theorem inst : Tryd.f8.isInstance Tryd.prog Rows.fnInsTakeRow.origin Rows.fnInsTakeRow.targs := of_decide_eq_true (by kernel_rfl)
theorem wrap_ : Tryd.f8.isWrapper Tryd.prog Rows.fnInsTakeRow.wrapper Rows.fnInsTakeRow.mainSum := by
  unfold Func.isWrapper
  rw [if_neg (by decide +kernel)]
  exact ⟨rfl, rfl⟩

theorem over : Rows.fnInsTakeRow.holds Tryd.pinned (OpenSpec.ofChange Rows.fnInsTakeSpec) :=
  OpenClaim.holds_of_wide 8 Tryd.f8 rfl rfl rfl rfl rfl rfl rfl ⟨rfl, rfl, rfl, rfl, rfl⟩ rfl rfl rfl rfl rfl (by as_aux_lemma => kernel_rfl) Tryd.func8 closed inst wrap_
    (fun os started H enc _ => lifted os started H enc)

theorem proved : Rows.FnInsTakeCardSaid :=
  Claim7.holds_tied_plain_at .later [] [.widerDeep] true (true, "028d24dd320b27b6c46a05199ebe84f8fff121ddae3ec7ca276d10def80d8688") false over (fun _ h => by cases h) (by kernel_rfl) (fun _ h => by cases h) fnInsTake_row_tie rfl ⟨rfl, rfl⟩ (by kernel_rfl) rfl
    (fun f fn hf hfn => by
      obtain rfl : f = 8 := Option.some.inj ((show Tryd.prog.funcNamed "loop.example/latimer/laws.FnInsTake" = some 8 by kernel_rfl).symm.trans hf) |>.symm
      obtain rfl : fn = Tryd.f8 := (Option.some.inj (Tryd.func8.symm.trans hfn)).symm
      exact ⟨by kernel_rfl, fun j t ht => by
        rw [Tryd.params8] at ht
        have hm : t ∈ [46, 46] := by simpa using Array.mem_of_getElem? ht
        have hall : ([46, 46].all fun u => !Tryd.prog.wantsStandIn u) = true := by kernel_rfl
        exact (show Tryd.prog.wantsStandIn t = false by simpa using List.all_eq_true.1 hall t hm)⟩)
    (by kernel_rfl)
#print axioms proved
end Go.Proofs.YtabbjnamlkphmaaDoor.fnInsTake
