/- Words as plain decimal text and back: contracts of the reference's WrdText and WrdRead. Conditions: none. -/
import Derived.Test.YtldohgjembbcmaaDoorSP
import Derived.Test.YtldohgjembbcmaaDoorD
import Derived.Laws.IdiomStrings
import Derived.Laws.Concat
namespace Go.Proofs.YtldohgjembbcmaaDoor
open Go Go.RowKit Go.Lib
set_option linter.unusedVariables false
set_option linter.unusedSimpArgs false

theorem digit_int (d : Nat) (h : d < 10) : ((UInt8.ofNat (48 + d)).toNat : Int) = 48 + d := by rw [digit_nat h]; omega
theorem conv1 (w : World) (g d : Nat) (hd : d < 10) (hc : w.cell? ⟨g, 0, none⟩ = some (.int .u8 (48 + (d : Int)))) :
    (convert 27 9 (.slice (some ⟨g, 0, none⟩) 1 1)).run Tryd.prog w = .ok (.string ⟨[UInt8.ofNat (48 + d)].toArray⟩) w := by
  refine run_convert_bytes_back w 27 9 5 ⟨g, 0, none⟩ 1 [UInt8.ofNat (48 + d)] Tryd.underlying27 Tryd.underlying5 Tryd.underlying9 fun j hj => ?_
  obtain rfl : j = 0 := by simpa using hj
  show w.cell? ((⟨g, 0, none⟩ : Addr).add 0) = some (.int .u8 ((UInt8.ofNat (48 + d)).toNat : Int))
  rw [show (⟨g, 0, none⟩ : Addr).add 0 = ⟨g, 0, none⟩ from rfl, digit_int d hd]
  exact hc

theorem ByteArray.mk_append_mk' {c : UInt8} {l : List UInt8} : (ByteArray.mk #[c] ++ ByteArray.mk l.toArray) = ByteArray.mk (c :: l).toArray := ByteArray.mk_append_mk [c] l
theorem specPlainText (N : Nat) (hN : N < 100000) (w : World) :
    Calls Tryd.prog 14 #[.int .i64 N] w fun e w' => e = .returned (.string ⟨(decDigits N).toArray⟩) ∧ Ext w w' := by
  have hd5 := (dec_length hN).2
  go_enter Tryd.func14, Tryd.ntmps14
  go_wp2
  go_loopw [0, 3] (fun i s wr => ∃ (m : Nat) (l : List UInt8), i = .int .i64 m ∧ s = .string ⟨l.toArray⟩ ∧ m < 100000 ∧ decDigits N = decDigits m ++ l ∧ Ext w wr) (fun i _ _ => (intOf i).toNat)
  case atStart => exact ⟨N, [], rfl, rfl, hN, by simp, (by repeat (first | with_reducible assumption | with_reducible exact Ext.refl _ | with_reducible apply Ext.drewN | with_reducible apply Ext.drew | with_reducible apply Ext.alloc | with_reducible refine Ext.set ?_ (by first | (simp; done) | (simp; omega)) _ | with_reducible refine Ext.next ?_ (by with_reducible assumption)))⟩
  case round =>
    obtain ⟨m, l, rfl, rfl, hm, he, hext⟩ := hrel
    have hl : l.length ≤ 5 := by have := congrArg List.length he; rw [List.length_append] at this; omega
    have HE := hid he
    clear he
    by_cases h9 : 9 < m
    · obtain ⟨d, hd⟩ : ∃ d : Nat, m % 10 = d := ⟨_, rfl⟩
      obtain ⟨q, hq⟩ : ∃ q : Nat, m / 10 = q := ⟨_, rfl⟩
      have hd9 : d < 10 := by omega
      have hT : Int.tmod (m : Int) 10 = (d : Int) := by rw [← hd]; exact tmod_at (n := 10) (by omega)
      have hQ : Int.tdiv (m : Int) 10 = (q : Int) := by rw [← hq]; exact tdiv_at (n := 10)
      obtain ⟨c, hc⟩ : ∃ c, UInt8.ofNat (48 + d) = c := ⟨_, rfl⟩
      have hconv := conv1 (wr.alloc (.cells #[.int .u8 (48 + (d : Int))] 5)) wr.heap.size d hd9 (by go_simp)
      rw [hc] at hconv
      have HS : Hid (decDigits m = decDigits q ++ [c]) := hid (by rw [dec_big (by omega), hd, hq, hc])
      clear hd hc
      go_wp2
      go_roundw
      case rel => exact ⟨q, c :: l, rfl, by rw [ByteArray.mk_append_mk'], by omega, by rw [HE.out, HS.out, List.append_assoc]; rfl, (by repeat (first | with_reducible assumption | with_reducible exact Ext.refl _ | with_reducible apply Ext.drewN | with_reducible apply Ext.drew | with_reducible apply Ext.alloc | with_reducible refine Ext.set ?_ (by first | (simp; done) | (simp; omega)) _ | with_reducible refine Ext.next ?_ (by with_reducible assumption)))⟩
      case measure => simp [intOf]; omega
    · have hd9 : m < 10 := by omega
      obtain ⟨c, hc⟩ : ∃ c, UInt8.ofNat (48 + m) = c := ⟨_, rfl⟩
      have hconv := conv1 (wr.alloc (.cells #[.int .u8 (48 + (m : Int))] 5)) wr.heap.size m hd9 (by go_simp)
      rw [hc] at hconv
      have HS : Hid (decDigits m = [c]) := hid (by rw [decDigits_one hd9, hc])
      clear hc
      go_wp2
      go_ret
      exact ⟨by rw [ByteArray.mk_append_mk', HE.out, HS.out]; rfl, (by repeat (first | with_reducible assumption | with_reducible exact Ext.refl _ | with_reducible apply Ext.drewN | with_reducible apply Ext.drew | with_reducible apply Ext.alloc | with_reducible refine Ext.set ?_ (by first | (simp; done) | (simp; omega)) _ | with_reducible refine Ext.next ?_ (by with_reducible assumption)))⟩

theorem specWrdText (n : Int) (w : World) :
    Calls Tryd.prog 6 #[.int .i64 n] w fun e w' => e = .returned (.string ⟨(wrdText n).toArray⟩) ∧ Ext w w' := by
  cases hk : wrdOk n
  · have E : Hid (wrdText n = []) := hid (by unfold wrdText; rw [hk]; rfl)
    have HK := hid hk
    clear hk
    go_enter Tryd.func6, Tryd.ntmps6
    go_wp2_with (go_at_call 12; refine (specWrdOk _ _).mono ?_; rintro e w' ⟨rfl, rfl⟩; rw [HK.out])
    go_ret
    exact ⟨by rw [E.out]; rfl, (by repeat (first | with_reducible assumption | with_reducible exact Ext.refl _ | with_reducible apply Ext.drewN | with_reducible apply Ext.drew | with_reducible apply Ext.alloc | with_reducible refine Ext.set ?_ (by first | (simp; done) | (simp; omega)) _ | with_reducible refine Ext.next ?_ (by with_reducible assumption)))⟩
  · have h := wrdOk_nat hk
    obtain ⟨m, rfl⟩ : ∃ m : Nat, n = m := ⟨n.toNat, by omega⟩
    have E : Hid (wrdText m = decDigits m) := hid (wrdText_of (by omega))
    have HK := hid hk
    have hm : m < 100000 := by omega
    clear hk h
    go_enter Tryd.func6, Tryd.ntmps6
    go_wp2_with (first | (go_at_call 12; refine (specWrdOk _ _).mono ?_; rintro e w' ⟨rfl, rfl⟩; rw [HK.out]) | (go_at_call 14; refine (specPlainText m hm _).mono ?_; rintro e w1 ⟨rfl, hw1⟩))
    go_ret
    exact ⟨by rw [E.out]; rfl, (by repeat (first | with_reducible assumption | with_reducible exact Ext.refl _ | with_reducible apply Ext.drewN | with_reducible apply Ext.drew | with_reducible apply Ext.alloc | with_reducible refine Ext.set ?_ (by first | (simp; done) | (simp; omega)) _ | with_reducible refine Ext.next ?_ (by with_reducible assumption)))⟩

theorem dec_bound {l : List UInt8} {j acc : Nat} (h : decFrom 0 (l.take j) = some acc) (hl : l.length ≤ 5) : acc < 100000 := by
  have h1 := decFrom_lt _ 0 acc h
  have h2 : (l.take j).length ≤ 5 := by rw [List.length_take]; omega
  have h3 := Nat.pow_le_pow_right (n := 10) (by decide) h2
  have e : (10 : Nat) ^ 5 = 100000 := by decide
  omega
theorem dec_stop : ∀ {l : List UInt8} {j : Nat} {c : UInt8} {a : Nat}, l[j]? = some c → digitVal c = none → decFrom a l = none
  | [], j, c, a, h, _ => by simp at h
  | b :: l, 0, c, a, h, hd => by
    simp at h
    subst h
    unfold decFrom
    rw [hd]
  | b :: l, j + 1, c, a, h, hd => by
    unfold decFrom
    cases digitVal b with
    | none => rfl
    | some d => exact dec_stop (l := l) (j := j) (by simpa using h) hd
theorem read_none {l : List UInt8} (h : decFrom 0 l = none) : wrdRead l = (0, false) := by
  unfold wrdRead
  rw [h]
  split <;> rfl
theorem read_some {l : List UInt8} {a : Nat} (h0 : ¬ l.length = 0) (h5 : ¬ 5 < l.length) (h : decFrom 0 l = some a) : wrdRead l = if wrdText a = l then ((a : Int), true) else (0, false) := by
  unfold wrdRead
  rw [if_neg (by omega), h]

theorem specWrdRead (l : List UInt8) (w : World) (hn : l.length ≤ 1048576) :
    Calls Tryd.prog 8 #[.string ⟨l.toArray⟩] w fun e w' => e = .returned (.tuple #[.int .i64 (wrdRead l).1, .bool (wrdRead l).2]) ∧ Ext w w' := by
  have hsz : (ByteArray.mk l.toArray).size = l.length := by show l.toArray.size = _; simp
  by_cases h0 : l.length = 0
  · have E : Hid (wrdRead l = (0, false)) := hid (by unfold wrdRead; rw [if_pos (.inl h0)])
    obtain rfl : l = [] := List.length_eq_zero_iff.1 h0
    go_enter Tryd.func8, Tryd.ntmps8
    go_wp2
    refine bodyPost_ret (v := .tuple #[.int .i64 0, .bool false]) (by simp [results, Tryd.results8, go_sem, *]) rfl ⟨by rw [E.out], (by repeat (first | with_reducible assumption | with_reducible exact Ext.refl _ | with_reducible apply Ext.drewN | with_reducible apply Ext.drew | with_reducible apply Ext.alloc | with_reducible refine Ext.set ?_ (by first | (simp; done) | (simp; omega)) _ | with_reducible refine Ext.next ?_ (by with_reducible assumption)))⟩
  by_cases h5 : 5 < l.length
  · have E : Hid (wrdRead l = (0, false)) := hid (by unfold wrdRead; rw [if_pos (.inr h5)])
    go_enter Tryd.func8, Tryd.ntmps8
    go_wp2
    refine bodyPost_ret (v := .tuple #[.int .i64 0, .bool false]) (by simp [results, Tryd.results8, go_sem, *]) rfl ⟨by rw [E.out], (by repeat (first | with_reducible assumption | with_reducible exact Ext.refl _ | with_reducible apply Ext.drewN | with_reducible apply Ext.drew | with_reducible apply Ext.alloc | with_reducible refine Ext.set ?_ (by first | (simp; done) | (simp; omega)) _ | with_reducible refine Ext.next ?_ (by with_reducible assumption)))⟩
  have q0 : ((l.length : Int) == 0) = false := by rw [beq_eq_false_iff_ne]; omega
  have q5 : decide ((5 : Int) < l.length) = false := decide_eq_false (by omega)
  go_enter Tryd.func8, Tryd.ntmps8
  go_wp2
  go_loopw [4, 5] (fun a i wr => ∃ (j acc : Nat), i = .int .i64 j ∧ a = .int .i64 acc ∧ j ≤ l.length ∧ decFrom 0 (l.take j) = some acc ∧ Ext w wr) (fun _ i _ => l.length - (intOf i).toNat)
  case atStart => exact ⟨0, 0, rfl, rfl, Nat.zero_le _, by simp [decFrom], (by repeat (first | with_reducible assumption | with_reducible exact Ext.refl _ | with_reducible apply Ext.drewN | with_reducible apply Ext.drew | with_reducible apply Ext.alloc | with_reducible refine Ext.set ?_ (by first | (simp; done) | (simp; omega)) _ | with_reducible refine Ext.next ?_ (by with_reducible assumption)))⟩
  case round =>
    obtain ⟨j, acc, rfl, rfl, hj, he, hext⟩ := hrel
    have hacc := dec_bound he (by omega)
    have HE := hid he
    clear he
    by_cases hlt : j < l.length
    · obtain ⟨c, hc⟩ : ∃ c, l[j]? = some c := ⟨l[j], List.getElem?_eq_getElem hlt⟩
      obtain ⟨x, hx⟩ : ∃ x, c.toNat = x := ⟨_, rfl⟩
      have hb : ∀ h : j < (ByteArray.mk l.toArray).size, ((ByteArray.mk l.toArray)[j]'h).toNat = x := fun h => by
        rw [← hx]
        have : l[j] = c := Option.some.inj ((List.getElem?_eq_getElem hlt).symm.trans hc)
        rw [← this]
        rfl
      have HC := hid hc
      have HX := hid hx
      clear hc hx
      by_cases h1 : x < 48
      · have E : Hid (wrdRead l = (0, false)) := hid (read_none (dec_stop HC.out (by unfold digitVal; rw [HX.out, if_neg (by omega)])))
        have i1 : (x : Int) < 48 := by omega
        go_wp2
        refine bodyPost_ret (v := .tuple #[.int .i64 0, .bool false]) (by simp [results, Tryd.results8, go_sem, *]) rfl ⟨by rw [E.out], (by repeat (first | with_reducible assumption | with_reducible exact Ext.refl _ | with_reducible apply Ext.drewN | with_reducible apply Ext.drew | with_reducible apply Ext.alloc | with_reducible refine Ext.set ?_ (by first | (simp; done) | (simp; omega)) _ | with_reducible refine Ext.next ?_ (by with_reducible assumption)))⟩
      have i1 : (48 : Int) ≤ x := by omega
      by_cases h2 : 57 < x
      · have E : Hid (wrdRead l = (0, false)) := hid (read_none (dec_stop HC.out (by unfold digitVal; rw [HX.out, if_neg (by omega)])))
        have i2 : (57 : Int) < x := by omega
        go_wp2
        refine bodyPost_ret (v := .tuple #[.int .i64 0, .bool false]) (by simp [results, Tryd.results8, go_sem, *]) rfl ⟨by rw [E.out], (by repeat (first | with_reducible assumption | with_reducible exact Ext.refl _ | with_reducible apply Ext.drewN | with_reducible apply Ext.drew | with_reducible apply Ext.alloc | with_reducible refine Ext.set ?_ (by first | (simp; done) | (simp; omega)) _ | with_reducible refine Ext.next ?_ (by with_reducible assumption)))⟩
      have i2 : (x : Int) ≤ 57 := by omega
      have HT : Hid (decFrom 0 (l.take (j + 1)) = some (acc * 10 + (x - 48))) := hid (decFrom_take l j 0 acc c (x - 48) HE.out HC.out (by unfold digitVal; rw [HX.out, if_pos (by omega)]))
      go_wp2
      go_roundw
      case rel => exact ⟨j + 1, acc * 10 + (x - 48), by go_num, by go_num, by omega, HT.out, hext⟩
      case measure => simp [intOf]; omega
    · have hf : Hid (wrdRead l = if wrdText acc = l then ((acc : Int), true) else (0, false)) := hid (read_some h0 h5 (by have := HE.out; rw [List.take_of_length_le (by omega)] at this; exact this))
      obtain ⟨tl, htl⟩ : ∃ tl, wrdText acc = tl := ⟨_, rfl⟩
      rw [htl] at hf
      have HTL := hid htl
      have t1 : (ByteArray.mk tl.toArray).toList = tl := by rw [ByteArray.toList_eq]
      have t2 : (ByteArray.mk l.toArray).toList = l := by rw [ByteArray.toList_eq]
      clear htl
      go_wp2_with fail
      refine (specWrdText _ _).mono ?_
      rintro e w1 ⟨rfl, hw1⟩
      rw [HTL.out]
      by_cases hq : tl = l
      · have E := hf.out
        rw [if_pos hq] at E
        have HEq := hid E
        have hbq : (tl == l) = true := by rw [beq_iff_eq]; exact hq
        clear E hf HTL
        go_wp2
        refine bodyPost_ret (v := .tuple #[.int .i64 acc, .bool true]) (by simp [results, Tryd.results8, go_sem, *]) rfl ⟨by rw [HEq.out], (by repeat (first | with_reducible assumption | with_reducible exact Ext.refl _ | with_reducible apply Ext.drewN | with_reducible apply Ext.drew | with_reducible apply Ext.alloc | with_reducible refine Ext.set ?_ (by first | (simp; done) | (simp; omega)) _ | with_reducible refine Ext.next ?_ (by with_reducible assumption)))⟩
      · have E := hf.out
        rw [if_neg hq] at E
        have HEq := hid E
        have hbq : (tl == l) = false := by rw [beq_eq_false_iff_ne]; exact hq
        clear E hf HTL hq
        go_wp2
        refine bodyPost_ret (v := .tuple #[.int .i64 0, .bool false]) (by simp [results, Tryd.results8, go_sem, *]) rfl ⟨by rw [HEq.out], (by repeat (first | with_reducible assumption | with_reducible exact Ext.refl _ | with_reducible apply Ext.drewN | with_reducible apply Ext.drew | with_reducible apply Ext.alloc | with_reducible refine Ext.set ?_ (by first | (simp; done) | (simp; omega)) _ | with_reducible refine Ext.next ?_ (by with_reducible assumption)))⟩
end Go.Proofs.YtldohgjembbcmaaDoor
