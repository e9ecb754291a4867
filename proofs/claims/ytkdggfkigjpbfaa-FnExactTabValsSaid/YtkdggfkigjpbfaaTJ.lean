/- What the atoms of a table come to: contracts of TabVals of both sides. Conditions: lengths that a machine can hold. -/
import Derived.Test.YtkdggfkigjpbfaaTI
import Derived.Test.YtkdggfkigjpbfaaA
namespace Go.Proofs.Ytkdggfkigjpbfaa
open Go Go.RowKit
set_option linter.unusedVariables false
set_option linter.unusedSimpArgs false

theorem nilI (TI : TypeId) (w : World) (lo : Nat) : OI TI w lo none 0 [] := ⟨rfl, .inl ⟨rfl, rfl⟩⟩
theorem Upd.far2 {S S' : Nat → Prop} {w a b : World} (h : Upd S w a) (k : Upd S' a b) (hs : ∀ i, S' i → w.heap.size ≤ i) : Upd S w b :=
  ⟨k.os.trans h.os, k.tape.trans h.tape, k.output.trans h.output, Nat.le_trans h.size k.size, fun i hi hn => (k.block i (Nat.lt_of_lt_of_le hi h.size) (fun e => by have := hs i e; omega)).trans (h.block i hi hn)⟩
theorem implWord (A : Option Addr) (k : Nat) (xs : List Int) (n : Int) (w : World) (h : RI 3 w A xs) (hn : xs.length < 4611686018427387904) (h0 : 0 ≤ n) (h1 : n ≤ 1000) :
    Calls Try.prog 29 #[.slice A xs.length k, .int .i64 n] w fun e w' => e = .returned (.int .i64 (valAt xs n)) ∧ w = w' := by
  obtain ⟨m, rfl⟩ : ∃ m : Nat, n = m := ⟨n.toNat, by omega⟩
  by_cases hm : m < xs.length
  · obtain ⟨b, o, x, rfl, hb, hx, hc⟩ := h.at_ hm
    have HV := hid (valAt_in hx)
    clear hx
    go_enter Try.func29, Try.ntmps29
    go_wp2
    go_ret
    exact ⟨ret_int HV.out.symm, rfl⟩
  · have HV := hid (valAt_out (vs := xs) (n := m) (by omega))
    go_enter Try.func29, Try.ntmps29
    go_wp2
    go_ret
    exact ⟨ret_int HV.out.symm, rfl⟩
theorem specAt (A : Option Addr) (k : Nat) (xs : List Int) (n : Int) (w : World) (h : RI 3 w A xs) (hn : xs.length < 4611686018427387904) (h0 : 0 ≤ n) (h1 : n ≤ 1000) :
    Calls Try.prog 25 #[.slice A xs.length k, .int .i64 n] w fun e w' => e = .returned (.int .i64 (valAt xs n)) ∧ w = w' := by
  obtain ⟨m, rfl⟩ : ∃ m : Nat, n = m := ⟨n.toNat, by omega⟩
  by_cases hm : m < xs.length
  · obtain ⟨b, o, x, rfl, hb, hx, hc⟩ := h.at_ hm
    have HV := hid (valAt_in hx)
    clear hx
    go_enter Try.func25, Try.ntmps25
    go_wp2
    go_ret
    exact ⟨ret_int HV.out.symm, rfl⟩
  · have HV := hid (valAt_out (vs := xs) (n := m) (by omega))
    go_enter Try.func25, Try.ntmps25
    go_wp2
    go_ret
    exact ⟨ret_int HV.out.symm, rfl⟩

def valOf (rs ls is out : List Int) (a : Atm) : Int := if a.1 = 1 then valAt rs a.2.1 else if a.1 = 2 then valAt ls a.2.1 else if a.1 = 3 then valAt is a.2.1 else wrdDo a.2.1 (polEval a.2.2.1 out) (polEval a.2.2.2 out)
def runStep (rs ls is : List Int) (out : List Int) (a : Atm) : List Int := out ++ [valOf rs ls is out a]
def tabRun (rs ls is : List Int) (d : List Atm) : List Int := d.foldl (runStep rs ls is) []
def valsOk (d : List Atm) (rs ls is : List Int) : Bool := tabOk d && (wordsB rs && (wordsB ls && wordsB is))
def tabVals (d : List Atm) (rs ls is : List Int) : List Int := if valsOk d rs ls is then tabRun rs ls is d else []
theorem tabRun_take {rs ls is : List Int} {d : List Atm} {j : Nat} {a : Atm} (h : d[j]? = some a) : tabRun rs ls is (d.take (j + 1)) = tabRun rs ls is (d.take j) ++ [valOf rs ls is (tabRun rs ls is (d.take j)) a] := by
  unfold tabRun
  rw [fold_take _ h]
  rfl
theorem run_length (rs ls is : List Int) : ∀ (d : List Atm) (out : List Int), (d.foldl (runStep rs ls is) out).length = out.length + d.length
  | [], out => by simp
  | a :: d, out => by rw [List.foldl_cons, run_length rs ls is d]; simp [runStep]; omega
theorem tabRun_length (rs ls is : List Int) (d : List Atm) : (tabRun rs ls is d).length = d.length := by unfold tabRun; rw [run_length]; simp
theorem wordsB_at {xs : List Int} (h : wordsB xs = true) (k : Int) : wrdOk (valAt xs k) = true := by
  unfold valAt
  rw [List.getD_eq_getElem?_getD]
  cases hx : xs[k.toNat]? with
  | none => decide
  | some x => exact List.all_eq_true.1 h x (List.mem_of_getElem? hx)
theorem valOf_word {rs ls is : List Int} (h1 : wordsB rs = true) (h2 : wordsB ls = true) (h3 : wordsB is = true) (out : List Int) (a : Atm) : wrdOk (valOf rs ls is out a) = true := by
  unfold valOf
  split
  · exact wordsB_at h1 _
  · split
    · exact wordsB_at h2 _
    · split
      · exact wordsB_at h3 _
      · exact wrdOk_do _ _ _
theorem run_words {rs ls is : List Int} (h1 : wordsB rs = true) (h2 : wordsB ls = true) (h3 : wordsB is = true) : ∀ (d : List Atm) (out : List Int), wordsB out = true → wordsB (d.foldl (runStep rs ls is) out) = true
  | [], out, h => h
  | a :: d, out, h => by
    rw [List.foldl_cons]
    refine run_words h1 h2 h3 d _ ?_
    unfold runStep wordsB at *
    rw [List.all_append, h]
    simp [valOf_word h1 h2 h3]
theorem atomOk_kinds {n : Int} {t : Tn} (h : atomOk n t.dat = true) : (t.kind = 1 ∧ 0 ≤ t.n ∧ t.n ≤ 3) ∨ (t.kind = 2 ∧ 0 ≤ t.n ∧ t.n ≤ 199) ∨ (t.kind = 3 ∧ 0 ≤ t.n ∧ t.n ≤ 199) ∨ (t.kind = 4 ∧ polOk (t.xs.map Mn.dat) = true ∧ polOk (t.ys.map Mn.dat) = true) := by
  unfold atomOk Tn.dat at h
  by_cases h4 : t.kind = 4
  · simp only [h4, if_true, Bool.and_eq_true] at h
    exact .inr (.inr (.inr ⟨h4, h.2.1, h.2.2.1⟩))
  · simp only [if_neg h4, Bool.and_eq_true] at h
    have h := h.2
    by_cases h1 : t.kind = 1
    · simp [h1, inB] at h
      exact .inl ⟨h1, h⟩
    · by_cases h2 : t.kind = 2
      · simp [h2, inB] at h
        exact .inr (.inl ⟨h2, h⟩)
      · by_cases h3 : t.kind = 3
        · simp [h3, inB] at h
          exact .inr (.inr (.inl ⟨h3, h⟩))
        · simp [h1, h2, h3] at h
theorem tabOk_good {d : List Atm} (h : tabOk d = true) {k : Nat} {a : Atm} (ha : d[k]? = some a) : atomOk k a = true := by
  cases hb : atomOk k a
  · rw [tabOk_bad ha hb] at h
    cases h
  · rfl
theorem tabOk_len {d : List Atm} (h : tabOk d = true) : d.length ≤ 200 := by
  rcases Nat.lt_or_ge 200 d.length with hl | hl
  · rw [tabOk_long hl] at h
    cases h
  · exact hl

set_option maxHeartbeats 4000000 in
theorem implTabVals (A A1 A2 A3 : Option Addr) (k c1 c2 c3 : Nat) (ts : List Tn) (rs ls is : List Int) (w : World) (h : RT 46 72 3 w A ts) (hs : SzT ts)
    (h1 : RI 3 w A1 rs) (h2 : RI 3 w A2 ls) (h3 : RI 3 w A3 is) (n1 : rs.length < 4611686018427387904) (n2 : ls.length < 4611686018427387904) (n3 : is.length < 4611686018427387904) :
    Calls Try.prog 12 #[.agg #[.slice A ts.length k], .slice A1 rs.length c1, .slice A2 ls.length c2, .slice A3 is.length c3] w (RetI 3 w (tabVals (ts.map Tn.dat) rs ls is)) := by
  have HL := hid (show (ts.map Tn.dat).length = ts.length by simp)
  cases ok : tabOk (ts.map Tn.dat)
  · have HR := hid (show tabVals (ts.map Tn.dat) rs ls is = [] by unfold tabVals valsOk; rw [ok]; rfl)
    have OK := hid ok
    clear ok
    go_enter Try.func12, Try.ntmps12
    go_wp2_with fail
    refine (implTabOk _ _ ts _ (h.ext (by repeat (first | with_reducible assumption | with_reducible exact Ext.refl _ | with_reducible apply Ext.drewN | with_reducible apply Ext.drew | with_reducible apply Ext.alloc | with_reducible refine Ext.set ?_ (by first | (simp; done) | (simp; omega)) _ | with_reducible refine Ext.next ?_ (by with_reducible assumption)))) hs).mono ?_
    rintro e w1 ⟨rfl, hw1⟩
    rw [OK.out]
    go_wp2
    go_ret
    exact ⟨none, 0, by rw [HR.out]; rfl, by rw [HR.out]; exact nilI _ _ _, (by repeat (first | with_reducible assumption | with_reducible exact Ext.refl _ | with_reducible apply Ext.drewN | with_reducible apply Ext.drew | with_reducible apply Ext.alloc | with_reducible refine Ext.set ?_ (by first | (simp; done) | (simp; omega)) _ | with_reducible refine Ext.next ?_ (by with_reducible assumption)))⟩
  cases k1' : wordsB rs
  · have HR := hid (show tabVals (ts.map Tn.dat) rs ls is = [] by unfold tabVals valsOk; rw [k1']; simp)
    have OK := hid ok
    have K1 := hid k1'
    clear ok k1'
    go_enter Try.func12, Try.ntmps12
    go_wp2_with fail
    refine (implTabOk _ _ ts _ (h.ext (by repeat (first | with_reducible assumption | with_reducible exact Ext.refl _ | with_reducible apply Ext.drewN | with_reducible apply Ext.drew | with_reducible apply Ext.alloc | with_reducible refine Ext.set ?_ (by first | (simp; done) | (simp; omega)) _ | with_reducible refine Ext.next ?_ (by with_reducible assumption)))) hs).mono ?_
    rintro e w1 ⟨rfl, hw1⟩
    rw [OK.out]
    go_wp2_with fail
    refine (implWordsOk _ _ rs _ (h1.ext (by repeat (first | with_reducible assumption | with_reducible exact Ext.refl _ | with_reducible apply Ext.drewN | with_reducible apply Ext.drew | with_reducible apply Ext.alloc | with_reducible refine Ext.set ?_ (by first | (simp; done) | (simp; omega)) _ | with_reducible refine Ext.next ?_ (by with_reducible assumption)))) n1).mono ?_
    rintro e w' ⟨rfl, rfl⟩
    rw [K1.out]
    go_wp2
    go_ret
    exact ⟨none, 0, by rw [HR.out]; rfl, by rw [HR.out]; exact nilI _ _ _, (by repeat (first | with_reducible assumption | with_reducible exact Ext.refl _ | with_reducible apply Ext.drewN | with_reducible apply Ext.drew | with_reducible apply Ext.alloc | with_reducible refine Ext.set ?_ (by first | (simp; done) | (simp; omega)) _ | with_reducible refine Ext.next ?_ (by with_reducible assumption)))⟩
  cases k2' : wordsB ls
  · have HR := hid (show tabVals (ts.map Tn.dat) rs ls is = [] by unfold tabVals valsOk; rw [k2']; simp)
    have OK := hid ok
    have K1 := hid k1'
    have K2 := hid k2'
    clear ok k1' k2'
    go_enter Try.func12, Try.ntmps12
    go_wp2_with fail
    refine (implTabOk _ _ ts _ (h.ext (by repeat (first | with_reducible assumption | with_reducible exact Ext.refl _ | with_reducible apply Ext.drewN | with_reducible apply Ext.drew | with_reducible apply Ext.alloc | with_reducible refine Ext.set ?_ (by first | (simp; done) | (simp; omega)) _ | with_reducible refine Ext.next ?_ (by with_reducible assumption)))) hs).mono ?_
    rintro e w1 ⟨rfl, hw1⟩
    rw [OK.out]
    go_wp2_with fail
    refine (implWordsOk _ _ rs _ (h1.ext (by repeat (first | with_reducible assumption | with_reducible exact Ext.refl _ | with_reducible apply Ext.drewN | with_reducible apply Ext.drew | with_reducible apply Ext.alloc | with_reducible refine Ext.set ?_ (by first | (simp; done) | (simp; omega)) _ | with_reducible refine Ext.next ?_ (by with_reducible assumption)))) n1).mono ?_
    rintro e w' ⟨rfl, rfl⟩
    rw [K1.out]
    go_wp2_with fail
    refine (implWordsOk _ _ ls _ (h2.ext (by repeat (first | with_reducible assumption | with_reducible exact Ext.refl _ | with_reducible apply Ext.drewN | with_reducible apply Ext.drew | with_reducible apply Ext.alloc | with_reducible refine Ext.set ?_ (by first | (simp; done) | (simp; omega)) _ | with_reducible refine Ext.next ?_ (by with_reducible assumption)))) n2).mono ?_
    rintro e w' ⟨rfl, rfl⟩
    rw [K2.out]
    go_wp2
    go_ret
    exact ⟨none, 0, by rw [HR.out]; rfl, by rw [HR.out]; exact nilI _ _ _, (by repeat (first | with_reducible assumption | with_reducible exact Ext.refl _ | with_reducible apply Ext.drewN | with_reducible apply Ext.drew | with_reducible apply Ext.alloc | with_reducible refine Ext.set ?_ (by first | (simp; done) | (simp; omega)) _ | with_reducible refine Ext.next ?_ (by with_reducible assumption)))⟩
  cases k3' : wordsB is
  · have HR := hid (show tabVals (ts.map Tn.dat) rs ls is = [] by unfold tabVals valsOk; rw [k3']; simp)
    have OK := hid ok
    have K1 := hid k1'
    have K2 := hid k2'
    have K3 := hid k3'
    clear ok k1' k2' k3'
    go_enter Try.func12, Try.ntmps12
    go_wp2_with fail
    refine (implTabOk _ _ ts _ (h.ext (by repeat (first | with_reducible assumption | with_reducible exact Ext.refl _ | with_reducible apply Ext.drewN | with_reducible apply Ext.drew | with_reducible apply Ext.alloc | with_reducible refine Ext.set ?_ (by first | (simp; done) | (simp; omega)) _ | with_reducible refine Ext.next ?_ (by with_reducible assumption)))) hs).mono ?_
    rintro e w1 ⟨rfl, hw1⟩
    rw [OK.out]
    go_wp2_with fail
    refine (implWordsOk _ _ rs _ (h1.ext (by repeat (first | with_reducible assumption | with_reducible exact Ext.refl _ | with_reducible apply Ext.drewN | with_reducible apply Ext.drew | with_reducible apply Ext.alloc | with_reducible refine Ext.set ?_ (by first | (simp; done) | (simp; omega)) _ | with_reducible refine Ext.next ?_ (by with_reducible assumption)))) n1).mono ?_
    rintro e w' ⟨rfl, rfl⟩
    rw [K1.out]
    go_wp2_with fail
    refine (implWordsOk _ _ ls _ (h2.ext (by repeat (first | with_reducible assumption | with_reducible exact Ext.refl _ | with_reducible apply Ext.drewN | with_reducible apply Ext.drew | with_reducible apply Ext.alloc | with_reducible refine Ext.set ?_ (by first | (simp; done) | (simp; omega)) _ | with_reducible refine Ext.next ?_ (by with_reducible assumption)))) n2).mono ?_
    rintro e w' ⟨rfl, rfl⟩
    rw [K2.out]
    go_wp2_with fail
    refine (implWordsOk _ _ is _ (h3.ext (by repeat (first | with_reducible assumption | with_reducible exact Ext.refl _ | with_reducible apply Ext.drewN | with_reducible apply Ext.drew | with_reducible apply Ext.alloc | with_reducible refine Ext.set ?_ (by first | (simp; done) | (simp; omega)) _ | with_reducible refine Ext.next ?_ (by with_reducible assumption)))) n3).mono ?_
    rintro e w' ⟨rfl, rfl⟩
    rw [K3.out]
    go_wp2
    go_ret
    exact ⟨none, 0, by rw [HR.out]; rfl, by rw [HR.out]; exact nilI _ _ _, (by repeat (first | with_reducible assumption | with_reducible exact Ext.refl _ | with_reducible apply Ext.drewN | with_reducible apply Ext.drew | with_reducible apply Ext.alloc | with_reducible refine Ext.set ?_ (by first | (simp; done) | (simp; omega)) _ | with_reducible refine Ext.next ?_ (by with_reducible assumption)))⟩
  have HR := hid (show tabVals (ts.map Tn.dat) rs ls is = tabRun rs ls is (ts.map Tn.dat) by unfold tabVals valsOk; rw [ok, k1', k2', k3']; rfl)
  have hlen : ts.length ≤ 200 := by have := tabOk_len ok; rw [List.length_map] at this; exact this
  have OK := hid ok
  have K1 := hid k1'
  have K2 := hid k2'
  have K3 := hid k3'
  have HWB : Hid (∀ j, wordsB (tabRun rs ls is ((ts.map Tn.dat).take j)) = true) := hid fun j => run_words k1' k2' k3' _ _ rfl
  have HTL : Hid (∀ j, j ≤ ts.length → (tabRun rs ls is ((ts.map Tn.dat).take j)).length = j) := hid fun j hj => by rw [tabRun_length, List.length_take, List.length_map]; omega
  clear ok k1' k2' k3'
  go_enter Try.func12, Try.ntmps12
  go_wp2_with fail
  refine (implTabOk _ _ ts _ (h.ext (by repeat (first | with_reducible assumption | with_reducible exact Ext.refl _ | with_reducible apply Ext.drewN | with_reducible apply Ext.drew | with_reducible apply Ext.alloc | with_reducible refine Ext.set ?_ (by first | (simp; done) | (simp; omega)) _ | with_reducible refine Ext.next ?_ (by with_reducible assumption)))) hs).mono ?_
  rintro e w1 ⟨rfl, hw1⟩
  rw [OK.out]
  obtain ⟨hc1, hf1⟩ := bcell_ hw1
  have hz1 : w.heap.size < w1.heap.size := by have := hw1.size; simp at this; omega
  go_wp2_with fail
  refine (implWordsOk _ _ rs _ (h1.ext (by repeat (first | with_reducible assumption | with_reducible exact Ext.refl _ | with_reducible apply Ext.drewN | with_reducible apply Ext.drew | with_reducible apply Ext.alloc | with_reducible refine Ext.set ?_ (by first | (simp; done) | (simp; omega)) _ | with_reducible refine Ext.next ?_ (by with_reducible assumption)))) n1).mono ?_
  rintro e w' ⟨rfl, rfl⟩
  rw [K1.out]
  go_wp2_with fail
  refine (implWordsOk _ _ ls _ (h2.ext (by repeat (first | with_reducible assumption | with_reducible exact Ext.refl _ | with_reducible apply Ext.drewN | with_reducible apply Ext.drew | with_reducible apply Ext.alloc | with_reducible refine Ext.set ?_ (by first | (simp; done) | (simp; omega)) _ | with_reducible refine Ext.next ?_ (by with_reducible assumption)))) n2).mono ?_
  rintro e w' ⟨rfl, rfl⟩
  rw [K2.out]
  go_wp2_with fail
  refine (implWordsOk _ _ is _ (h3.ext (by repeat (first | with_reducible assumption | with_reducible exact Ext.refl _ | with_reducible apply Ext.drewN | with_reducible apply Ext.drew | with_reducible apply Ext.alloc | with_reducible refine Ext.set ?_ (by first | (simp; done) | (simp; omega)) _ | with_reducible refine Ext.next ?_ (by with_reducible assumption)))) n3).mono ?_
  rintro e w' ⟨rfl, rfl⟩
  rw [K3.out]
  go_wp2
  clear hc1 hf1
  go_loopw [9, 34] (fun s i wr => ∃ (j : Nat) (A' : Option Addr) (k' : Nat), i = .int .i64 j ∧ j ≤ ts.length ∧ s = .slice A' (tabRun rs ls is ((ts.map Tn.dat).take j)).length k' ∧ OI 3 wr w.heap.size A' k' (tabRun rs ls is ((ts.map Tn.dat).take j)) ∧ Ext w wr) (fun _ i _ => ts.length - (intOf i).toNat)
  case atStart => exact ⟨0, none, 0, rfl, Nat.zero_le _, rfl, nilI _ _ _, (by repeat (first | with_reducible assumption | with_reducible exact Ext.refl _ | with_reducible apply Ext.drewN | with_reducible apply Ext.drew | with_reducible apply Ext.alloc | with_reducible refine Ext.set ?_ (by first | (simp; done) | (simp; omega)) _ | with_reducible refine Ext.next ?_ (by with_reducible assumption)))⟩
  case round =>
    obtain ⟨j, A', k', rfl, hj, rfl, ho, hext⟩ := hrel
    by_cases hlt : j < ts.length
    · obtain ⟨b, o, m, rfl, hb, hm, d0, d1, d2, d3, hI1, hI2⟩ := (h.ext hext).at_ hlt
      have HT := hid (tabRun_take (rs := rs) (ls := ls) (is := is) (datT hm))
      obtain ⟨hz1, hz2⟩ := hs.at_ hm
      have HK := atomOk_kinds (tabOk_good OK.out (datT hm))
      have hly : (tabRun rs ls is ((ts.map Tn.dat).take j)).length ≤ 200 := by rw [HTL.out j (by omega)]; omega
      have HB := hid (HWB.out j)
      have hxs := hext.size
      clear hm
      generalize hys : tabRun rs ls is ((ts.map Tn.dat).take j) = ys at *
      clear hys
      have HO := hid ho
      clear ho
      obtain ⟨kd, kn, B1, e1, xs, B2, e2, zs⟩ := m
      simp only at d0 d1 d2 d3 hI1 hI2 hz1 hz2 HK
      rcases HK with ⟨rfl, q0, q1⟩ | ⟨rfl, q0, q1⟩ | ⟨rfl, q0, q1⟩ | ⟨rfl, q0, q1⟩
      · have HV := hid (show valOf rs ls is ys (Tn.dat ⟨1, kn, B1, e1, xs, B2, e2, zs⟩) = valAt rs kn from rfl)
        go_wp2_with (first | (go_at_call 29; refine (implWord A1 c1 rs kn _ (h1.ext (by repeat (first | with_reducible assumption | with_reducible exact Ext.refl _ | with_reducible apply Ext.drewN | with_reducible apply Ext.drew | with_reducible apply Ext.alloc | with_reducible refine Ext.set ?_ (by first | (simp; done) | (simp; omega)) _ | with_reducible refine Ext.next ?_ (by with_reducible assumption)))) n1 q0 (by omega)).mono ?_; rintro e w' ⟨rfl, rfl⟩) | (at_builtin; (refine app_int Try.underlying33 info_int rfl _ _ rfl w.heap.size A' k' ys (HO.out.ext (by repeat (first | with_reducible assumption | with_reducible exact Ext.refl _ | with_reducible apply Ext.drewN | with_reducible apply Ext.drew | with_reducible apply Ext.alloc | with_reducible refine Ext.set ?_ (by first | (simp; done) | (simp; omega)) _ | with_reducible refine Ext.next ?_ (by with_reducible assumption)))) ys.length rfl rfl (valAt rs kn) _ 1 rfl (by rw [addr_add]; go_simp) (by omega) (by simp; omega) ?_); (intro A5 k5 w5 ho5 hu5); (have HO5 := hid ho5); (have HU5 : Hid (Ext w w5) := hid ((Upd.far2 (S := fun _ => False) (Upd.of_ext (by repeat (first | with_reducible assumption | with_reducible exact Ext.refl _ | with_reducible apply Ext.drewN | with_reducible apply Ext.drew | with_reducible apply Ext.alloc | with_reducible refine Ext.set ?_ (by first | (simp; done) | (simp; omega)) _ | with_reducible refine Ext.next ?_ (by with_reducible assumption)))) hu5 fun b hb => (own_atB HO.out hb).1).ext (fun b hb => hb.elim))); clear ho5 hu5))
        go_roundw
        case rel => exact ⟨j + 1, A5, k5, by go_num, by omega, by rw [HT.out, List.length_append]; rfl, by rw [HT.out, HV.out]; exact HO5.out, HU5.out⟩
        case measure => simp [intOf]; omega
      · have HV := hid (show valOf rs ls is ys (Tn.dat ⟨2, kn, B1, e1, xs, B2, e2, zs⟩) = valAt ls kn from rfl)
        go_wp2_with (first | (go_at_call 29; refine (implWord A2 c2 ls kn _ (h2.ext (by repeat (first | with_reducible assumption | with_reducible exact Ext.refl _ | with_reducible apply Ext.drewN | with_reducible apply Ext.drew | with_reducible apply Ext.alloc | with_reducible refine Ext.set ?_ (by first | (simp; done) | (simp; omega)) _ | with_reducible refine Ext.next ?_ (by with_reducible assumption)))) n2 q0 (by omega)).mono ?_; rintro e w' ⟨rfl, rfl⟩) | (at_builtin; (refine app_int Try.underlying33 info_int rfl _ _ rfl w.heap.size A' k' ys (HO.out.ext (by repeat (first | with_reducible assumption | with_reducible exact Ext.refl _ | with_reducible apply Ext.drewN | with_reducible apply Ext.drew | with_reducible apply Ext.alloc | with_reducible refine Ext.set ?_ (by first | (simp; done) | (simp; omega)) _ | with_reducible refine Ext.next ?_ (by with_reducible assumption)))) ys.length rfl rfl (valAt ls kn) _ 1 rfl (by rw [addr_add]; go_simp) (by omega) (by simp; omega) ?_); (intro A5 k5 w5 ho5 hu5); (have HO5 := hid ho5); (have HU5 : Hid (Ext w w5) := hid ((Upd.far2 (S := fun _ => False) (Upd.of_ext (by repeat (first | with_reducible assumption | with_reducible exact Ext.refl _ | with_reducible apply Ext.drewN | with_reducible apply Ext.drew | with_reducible apply Ext.alloc | with_reducible refine Ext.set ?_ (by first | (simp; done) | (simp; omega)) _ | with_reducible refine Ext.next ?_ (by with_reducible assumption)))) hu5 fun b hb => (own_atB HO.out hb).1).ext (fun b hb => hb.elim))); clear ho5 hu5))
        go_roundw
        case rel => exact ⟨j + 1, A5, k5, by go_num, by omega, by rw [HT.out, List.length_append]; rfl, by rw [HT.out, HV.out]; exact HO5.out, HU5.out⟩
        case measure => simp [intOf]; omega
      · have HV := hid (show valOf rs ls is ys (Tn.dat ⟨3, kn, B1, e1, xs, B2, e2, zs⟩) = valAt is kn from rfl)
        go_wp2_with (first | (go_at_call 29; refine (implWord A3 c3 is kn _ (h3.ext (by repeat (first | with_reducible assumption | with_reducible exact Ext.refl _ | with_reducible apply Ext.drewN | with_reducible apply Ext.drew | with_reducible apply Ext.alloc | with_reducible refine Ext.set ?_ (by first | (simp; done) | (simp; omega)) _ | with_reducible refine Ext.next ?_ (by with_reducible assumption)))) n3 q0 (by omega)).mono ?_; rintro e w' ⟨rfl, rfl⟩) | (at_builtin; (refine app_int Try.underlying33 info_int rfl _ _ rfl w.heap.size A' k' ys (HO.out.ext (by repeat (first | with_reducible assumption | with_reducible exact Ext.refl _ | with_reducible apply Ext.drewN | with_reducible apply Ext.drew | with_reducible apply Ext.alloc | with_reducible refine Ext.set ?_ (by first | (simp; done) | (simp; omega)) _ | with_reducible refine Ext.next ?_ (by with_reducible assumption)))) ys.length rfl rfl (valAt is kn) _ 1 rfl (by rw [addr_add]; go_simp) (by omega) (by simp; omega) ?_); (intro A5 k5 w5 ho5 hu5); (have HO5 := hid ho5); (have HU5 : Hid (Ext w w5) := hid ((Upd.far2 (S := fun _ => False) (Upd.of_ext (by repeat (first | with_reducible assumption | with_reducible exact Ext.refl _ | with_reducible apply Ext.drewN | with_reducible apply Ext.drew | with_reducible apply Ext.alloc | with_reducible refine Ext.set ?_ (by first | (simp; done) | (simp; omega)) _ | with_reducible refine Ext.next ?_ (by with_reducible assumption)))) hu5 fun b hb => (own_atB HO.out hb).1).ext (fun b hb => hb.elim))); clear ho5 hu5))
        go_roundw
        case rel => exact ⟨j + 1, A5, k5, by go_num, by omega, by rw [HT.out, List.length_append]; rfl, by rw [HT.out, HV.out]; exact HO5.out, HU5.out⟩
        case measure => simp [intOf]; omega
      · have HV := hid (show valOf rs ls is ys (Tn.dat ⟨4, kn, B1, e1, xs, B2, e2, zs⟩) = wrdDo kn (polRaw ys (xs.map Mn.dat)) (polRaw ys (zs.map Mn.dat)) by rw [← polEval_yes q0 HB.out, ← polEval_yes q1 HB.out]; rfl)
        go_wp2
        refine wp_region_over (by kernel_rfl) (by kernel_rfl) ?_
        repeat (go_big_quiet_step ((first | (go_at_call_of 31 (Value.agg #[Value.slice B1 xs.length e1]); exact calls_over (implEval _ _ _ _ xs ys _ ((hI1.ext (by repeat (first | with_reducible assumption | with_reducible exact Ext.refl _ | with_reducible apply Ext.drewN | with_reducible apply Ext.drew | with_reducible apply Ext.alloc | with_reducible refine Ext.set ?_ (by first | (simp; done) | (simp; omega)) _ | with_reducible refine Ext.next ?_ (by with_reducible assumption)))).ext (Over.ext _)) hz1 ((HO.out.ri.ext (by repeat (first | with_reducible assumption | with_reducible exact Ext.refl _ | with_reducible apply Ext.drewN | with_reducible apply Ext.drew | with_reducible apply Ext.alloc | with_reducible refine Ext.set ?_ (by first | (simp; done) | (simp; omega)) _ | with_reducible refine Ext.next ?_ (by with_reducible assumption)))).ext (Over.ext _)) (by omega) q0)) | (go_at_call_of 31 (Value.agg #[Value.slice B2 zs.length e2]); exact calls_over (implEval _ _ _ _ zs ys _ ((hI2.ext (by repeat (first | with_reducible assumption | with_reducible exact Ext.refl _ | with_reducible apply Ext.drewN | with_reducible apply Ext.drew | with_reducible apply Ext.alloc | with_reducible refine Ext.set ?_ (by first | (simp; done) | (simp; omega)) _ | with_reducible refine Ext.next ?_ (by with_reducible assumption)))).ext (Over.ext _)) hz2 ((HO.out.ri.ext (by repeat (first | with_reducible assumption | with_reducible exact Ext.refl _ | with_reducible apply Ext.drewN | with_reducible apply Ext.drew | with_reducible apply Ext.alloc | with_reducible refine Ext.set ?_ (by first | (simp; done) | (simp; omega)) _ | with_reducible refine Ext.next ?_ (by with_reducible assumption)))).ext (Over.ext _)) (by omega) q1)) | (go_at_call 30; exact calls_over_same (implWrdDo _ _ _ _)))))
        refine wpQuiet_nil ?_
        rintro _ ⟨⟨wq, hwq⟩, rfl⟩
        have hsq := hwq.size
        (try simp at hsq)
        go_wp2_with (at_builtin; (refine app_int Try.underlying33 info_int rfl _ _ rfl w.heap.size A' k' ys (HO.out.ext (by repeat (first | with_reducible assumption | with_reducible exact Ext.refl _ | with_reducible apply Ext.drewN | with_reducible apply Ext.drew | with_reducible apply Ext.alloc | with_reducible refine Ext.set ?_ (by first | (simp; done) | (simp; omega)) _ | with_reducible refine Ext.next ?_ (by with_reducible assumption)))) ys.length rfl rfl (wrdDo kn (polRaw ys (xs.map Mn.dat)) (polRaw ys (zs.map Mn.dat))) _ 1 rfl (by rw [addr_add]; go_simp) (by omega) (by simp; omega) ?_); (intro A5 k5 w5 ho5 hu5); (have HO5 := hid ho5); (have HU5 : Hid (Ext w w5) := hid ((Upd.far2 (S := fun _ => False) (Upd.of_ext (by repeat (first | with_reducible assumption | with_reducible exact Ext.refl _ | with_reducible apply Ext.drewN | with_reducible apply Ext.drew | with_reducible apply Ext.alloc | with_reducible refine Ext.set ?_ (by first | (simp; done) | (simp; omega)) _ | with_reducible refine Ext.next ?_ (by with_reducible assumption)))) hu5 fun b hb => (own_atB HO.out hb).1).ext (fun b hb => hb.elim))); clear ho5 hu5)
        go_roundw
        case rel => exact ⟨j + 1, A5, k5, by go_num, by omega, by rw [HT.out, List.length_append]; rfl, by rw [HT.out, HV.out]; exact HO5.out, HU5.out⟩
        case measure => simp [intOf]; omega
    · obtain rfl : j = ts.length := by omega
      have HE := hid (show tabRun rs ls is ((ts.map Tn.dat).take ts.length) = tabVals (ts.map Tn.dat) rs ls is by rw [HR.out, List.take_of_length_le (by rw [HL.out]; exact Nat.le_refl _)])
      have HO := hid ho
      clear ho
      go_wp2
      go_ret
      exact ⟨A', k', by rw [HE.out]; rfl, by rw [← HE.out]; exact HO.out, hext⟩
end Go.Proofs.Ytkdggfkigjpbfaa
