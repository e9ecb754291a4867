/- Words as plain decimal text and back: contracts of the program's WrdText and WrdRead. Conditions: the library's table of tens and its two errors are laid. -/
import Derived.Test.YtldohgjembbcmaaDoorSH
import Derived.Test.YtldohgjembbcmaaDoorSQ
namespace Go.Proofs.YtldohgjembbcmaaDoor
open Go Go.RowKit Go.Lib
set_option linter.unusedVariables false
set_option linter.unusedSimpArgs false

theorem ext_grow (w : World) (os : Array Obj) : Ext w (Go.Sort.grow w os) :=
  ⟨rfl, rfl, rfl, by show w.heap.size ≤ (w.heap ++ os).size; simp, fun i hi => by show (w.heap ++ os)[i]? = w.heap[i]?; rw [Array.getElem?_append_left hi]⟩
theorem ext_bytes (w : World) (e : TypeId) (s : ByteArray) : Ext w (Lib.bytesWorld w e s) :=
  ⟨rfl, rfl, rfl, by rw [Lib.bytesWorld_size]; omega, fun j hj => Lib.bytesWorld_at_old w e s j hj⟩

theorem itoa_ (n : Nat) (hn : n < 100000) (w : World) (hF : LaidAt3 w) :
    Calls Tryd.prog 16 #[.int .i64 n] w fun e w' => e = .returned (.string ⟨(decDigits n).toArray⟩) ∧ Ext w w' := by
  refine (strconv_Itoa n (by omega) (by omega) w hF).mono ?_
  rintro e w' ⟨rfl, k, os, rfl⟩
  have e1 : Lib.itoa (n : Int) = decDigits n := by unfold Lib.itoa; rw [if_neg (by omega)]; rfl
  exact ⟨by rw [e1], Ext.next (Ext.drewN (Ext.refl _) k) (ext_grow _ _)⟩

theorem implWrdText (n : Int) (w : World) (hF : LaidAt3 w) :
    Calls Tryd.prog 7 #[.int .i64 n] w fun e w' => e = .returned (.string ⟨(wrdText n).toArray⟩) ∧ Ext w w' := by
  cases hk : wrdOk n
  · have E : Hid (wrdText n = []) := hid (by unfold wrdText; rw [hk]; rfl)
    have HK := hid hk
    clear hk
    go_enter Tryd.func7, Tryd.ntmps7
    go_wp2_with (go_at_call 15; refine (implWrdOk _ _).mono ?_; rintro e w' ⟨rfl, rfl⟩; rw [HK.out])
    go_ret
    exact ⟨by rw [E.out]; rfl, (by repeat (first | with_reducible assumption | with_reducible exact Ext.refl _ | with_reducible apply Ext.drewN | with_reducible apply Ext.drew | with_reducible apply Ext.alloc | with_reducible refine Ext.set ?_ (by first | (simp; done) | (simp; omega)) _ | with_reducible refine Ext.next ?_ (by with_reducible assumption)))⟩
  · have h := wrdOk_nat hk
    obtain ⟨m, rfl⟩ : ∃ m : Nat, n = m := ⟨n.toNat, by omega⟩
    have E : Hid (wrdText m = decDigits m) := hid (wrdText_of (by omega))
    have HK := hid hk
    have hm : m < 100000 := by omega
    clear hk h
    go_enter Tryd.func7, Tryd.ntmps7
    go_wp2_with (first | (go_at_call 15; refine (implWrdOk _ _).mono ?_; rintro e w' ⟨rfl, rfl⟩; rw [HK.out]) | (go_at_call 16; refine (itoa_ m hm _ (hF.ext (by repeat (first | with_reducible assumption | with_reducible exact Ext.refl _ | with_reducible apply Ext.drewN | with_reducible apply Ext.drew | with_reducible apply Ext.alloc | with_reducible refine Ext.set ?_ (by first | (simp; done) | (simp; omega)) _ | with_reducible refine Ext.next ?_ (by with_reducible assumption))))).mono ?_; rintro e w1 ⟨rfl, hw1⟩))
    go_ret
    exact ⟨by rw [E.out]; rfl, (by repeat (first | with_reducible assumption | with_reducible exact Ext.refl _ | with_reducible apply Ext.drewN | with_reducible apply Ext.drew | with_reducible apply Ext.alloc | with_reducible refine Ext.set ?_ (by first | (simp; done) | (simp; omega)) _ | with_reducible refine Ext.next ?_ (by with_reducible assumption)))⟩

/-- What Atoi ends in: a number and no error; or an error. -/
theorem atoi_ (l : List UInt8) (w : World) (hn : l.length ≤ 281474976710656) (hF : LaidAt5 w) :
    Calls Tryd.prog 17 #[.string ⟨l.toArray⟩] w fun e w' => (match atoiAll l with
      | .ok v => e = .returned (.tuple #[.int .i64 v, .nilIface])
      | _ => ∃ v a, e = .returned (.tuple #[.int .i64 v, .iface 52 (.pointer (some a))])) ∧ Ext w w' := by
  have hsz : (ByteArray.mk l.toArray).size = l.length := by show l.toArray.size = _; simp
  have hl : (ByteArray.mk l.toArray).data.toList = l := by simp
  obtain ⟨_, ⟨a1, h1⟩, a2, h2⟩ := hF
  cases ha : atoiAll l
  case ok v =>
    refine (strconv_Atoi_ok _ (by rw [hsz]; omega) v (by rw [hl]; exact ha) w).mono ?_
    rintro e w' ⟨rfl, h⟩
    refine ⟨rfl, ?_⟩
    rcases h with rfl | ⟨t, rfl⟩
    · exact Ext.refl _
    · exact ext_bytes _ _ _
  case range =>
    refine (strconv_Atoi_range_var _ (by rw [hsz]; exact hn) (by rw [hl]; exact ha) _ _ w h1).mono ?_
    rintro e w' ⟨N, rfl, _, _, hb⟩
    exact ⟨⟨_, _, rfl⟩, hb⟩
  all_goals
    refine (strconv_Atoi_syntax_var _ (by rw [hsz]; exact hn) (by rw [hl]; exact ha) _ _ w h2).mono ?_
    rintro e w' ⟨N, rfl, _, _, hb⟩
    exact ⟨⟨_, _, rfl⟩, hb⟩

theorem implWrdRead (l : List UInt8) (w : World) (hn : l.length ≤ 281474976710656) (hF : LaidAt5 w) :
    Calls Tryd.prog 9 #[.string ⟨l.toArray⟩] w fun e w' => e = .returned (.tuple #[.int .i64 (wrdRead l).1, .bool (wrdRead l).2]) ∧ Ext w w' := by
  have hr := wrdRead_atoi (l := l)
  have t2 : (ByteArray.mk l.toArray).toList = l := by rw [ByteArray.toList_eq]
  have hA := fun w0 h0 => atoi_ l w0 hn h0
  cases ha : atoiAll l
  case ok v =>
    rw [ha] at hr hA
    simp only at hr hA
    obtain ⟨tl, htl⟩ : ∃ tl, wrdText v = tl := ⟨_, rfl⟩
    rw [htl] at hr
    have HTL := hid htl
    have t1 : (ByteArray.mk tl.toArray).toList = tl := by rw [ByteArray.toList_eq]
    have HA := hid hA
    clear htl hA ha
    by_cases hq : tl = l
    · rw [if_pos hq] at hr
      have E := hid hr
      have hbq : (tl == l) = true := by rw [beq_iff_eq]; exact hq
      clear hr
      go_enter Tryd.func9, Tryd.ntmps9
      go_wp2_with fail
      refine (HA.out _ (hF.ext (by repeat (first | with_reducible assumption | with_reducible exact Ext.refl _ | with_reducible apply Ext.drewN | with_reducible apply Ext.drew | with_reducible apply Ext.alloc | with_reducible refine Ext.set ?_ (by first | (simp; done) | (simp; omega)) _ | with_reducible refine Ext.next ?_ (by with_reducible assumption))))).mono ?_
      rintro e w1 ⟨rfl, hw1⟩
      go_wp2_with fail
      refine (implWrdText _ _ (hF.1.ext (by repeat (first | with_reducible assumption | with_reducible exact Ext.refl _ | with_reducible apply Ext.drewN | with_reducible apply Ext.drew | with_reducible apply Ext.alloc | with_reducible refine Ext.set ?_ (by first | (simp; done) | (simp; omega)) _ | with_reducible refine Ext.next ?_ (by with_reducible assumption))))).mono ?_
      rintro e w2 ⟨rfl, hw2⟩
      rw [HTL.out]
      go_wp2
      refine bodyPost_ret (v := .tuple #[.int .i64 v, .bool true]) (by simp [results, Tryd.results9, go_sem, *]) rfl ⟨by rw [E.out], (by repeat (first | with_reducible assumption | with_reducible exact Ext.refl _ | with_reducible apply Ext.drewN | with_reducible apply Ext.drew | with_reducible apply Ext.alloc | with_reducible refine Ext.set ?_ (by first | (simp; done) | (simp; omega)) _ | with_reducible refine Ext.next ?_ (by with_reducible assumption)))⟩
    · rw [if_neg hq] at hr
      have E := hid hr
      have hbq : (tl == l) = false := by rw [beq_eq_false_iff_ne]; exact hq
      clear hr hq
      go_enter Tryd.func9, Tryd.ntmps9
      go_wp2_with fail
      refine (HA.out _ (hF.ext (by repeat (first | with_reducible assumption | with_reducible exact Ext.refl _ | with_reducible apply Ext.drewN | with_reducible apply Ext.drew | with_reducible apply Ext.alloc | with_reducible refine Ext.set ?_ (by first | (simp; done) | (simp; omega)) _ | with_reducible refine Ext.next ?_ (by with_reducible assumption))))).mono ?_
      rintro e w1 ⟨rfl, hw1⟩
      go_wp2_with fail
      refine (implWrdText _ _ (hF.1.ext (by repeat (first | with_reducible assumption | with_reducible exact Ext.refl _ | with_reducible apply Ext.drewN | with_reducible apply Ext.drew | with_reducible apply Ext.alloc | with_reducible refine Ext.set ?_ (by first | (simp; done) | (simp; omega)) _ | with_reducible refine Ext.next ?_ (by with_reducible assumption))))).mono ?_
      rintro e w2 ⟨rfl, hw2⟩
      rw [HTL.out]
      go_wp2
      refine bodyPost_ret (v := .tuple #[.int .i64 0, .bool false]) (by simp [results, Tryd.results9, go_sem, *]) rfl ⟨by rw [E.out], (by repeat (first | with_reducible assumption | with_reducible exact Ext.refl _ | with_reducible apply Ext.drewN | with_reducible apply Ext.drew | with_reducible apply Ext.alloc | with_reducible refine Ext.set ?_ (by first | (simp; done) | (simp; omega)) _ | with_reducible refine Ext.next ?_ (by with_reducible assumption)))⟩
  all_goals
    rw [ha] at hr hA
    simp only at hr hA
    have E := hid hr
    have HA := hid hA
    clear hr hA ha
    go_enter Tryd.func9, Tryd.ntmps9
    go_wp2_with fail
    refine (HA.out _ (hF.ext (by repeat (first | with_reducible assumption | with_reducible exact Ext.refl _ | with_reducible apply Ext.drewN | with_reducible apply Ext.drew | with_reducible apply Ext.alloc | with_reducible refine Ext.set ?_ (by first | (simp; done) | (simp; omega)) _ | with_reducible refine Ext.next ?_ (by with_reducible assumption))))).mono ?_
    rintro e w1 ⟨⟨v, a, rfl⟩, hw1⟩
    go_wp2
    refine bodyPost_ret (v := .tuple #[.int .i64 0, .bool false]) (by simp [results, Tryd.results9, go_sem, *]) rfl ⟨by rw [E.out], (by repeat (first | with_reducible assumption | with_reducible exact Ext.refl _ | with_reducible apply Ext.drewN | with_reducible apply Ext.drew | with_reducible apply Ext.alloc | with_reducible refine Ext.set ?_ (by first | (simp; done) | (simp; omega)) _ | with_reducible refine Ext.next ?_ (by with_reducible assumption)))⟩
end Go.Proofs.YtldohgjembbcmaaDoor
