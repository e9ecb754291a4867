/- What the atoms of a table come to: the contract of the reference's TabVals. Conditions: lengths that a machine can hold. -/
import Derived.Test.YtkdggfkigjpbfaaTJ
namespace Go.Proofs.Ytkdggfkigjpbfaa
open Go Go.RowKit
set_option linter.unusedVariables false
set_option linter.unusedSimpArgs false

theorem made1 (TI : TypeId) (w : World) (o1 : Obj) : OI TI ((w.alloc o1).alloc (.cells #[] TI)) (w.heap.size + 1) (some ⟨w.heap.size + 1, 0, none⟩) 0 [] := by
  have := OI.made (TI := TI) (w.alloc o1) (lo := w.heap.size + 1) (by simp)
  simpa using this
set_option maxHeartbeats 4000000 in
theorem specTabVals (A A1 A2 A3 : Option Addr) (k c1 c2 c3 : Nat) (ts : List Tn) (rs ls is : List Int) (w : World) (h : RT 46 72 3 w A ts) (hs : SzT ts)
    (h1 : RI 3 w A1 rs) (h2 : RI 3 w A2 ls) (h3 : RI 3 w A3 is) (n1 : rs.length < 4611686018427387904) (n2 : ls.length < 4611686018427387904) (n3 : is.length < 4611686018427387904) :
    Calls Try.prog 10 #[.agg #[.slice A ts.length k], .slice A1 rs.length c1, .slice A2 ls.length c2, .slice A3 is.length c3] w (RetI 3 w (tabVals (ts.map Tn.dat) rs ls is)) := by
  have HL := hid (show (ts.map Tn.dat).length = ts.length by simp)
  cases ok : tabOk (ts.map Tn.dat)
  · have HR := hid (show tabVals (ts.map Tn.dat) rs ls is = [] by unfold tabVals valsOk; rw [ok]; rfl)
    have OK := hid ok
    clear ok
    go_enter Try.func10, Try.ntmps10
    go_wp2_with fail
    refine (specTabOk _ _ ts _ (h.ext (by repeat (first | with_reducible assumption | with_reducible exact Ext.refl _ | with_reducible apply Ext.drewN | with_reducible apply Ext.drew | with_reducible apply Ext.alloc | with_reducible refine Ext.set ?_ (by first | (simp; done) | (simp; omega)) _ | with_reducible refine Ext.next ?_ (by with_reducible assumption)))) hs).mono ?_
    rintro e w1 ⟨rfl, hw1⟩
    rw [OK.out]
    go_wp2
    go_ret
    exact ⟨some ⟨w.heap.size + 1, 0, none⟩, 0, by rw [HR.out]; rfl, by rw [HR.out]; exact ((made1 3 w _).ext (by repeat (first | with_reducible assumption | with_reducible exact Ext.refl _ | with_reducible apply Ext.drewN | with_reducible apply Ext.drew | with_reducible apply Ext.alloc | with_reducible refine Ext.set ?_ (by first | (simp; done) | (simp; omega)) _ | with_reducible refine Ext.next ?_ (by with_reducible assumption)))).base (by omega), (by repeat (first | with_reducible assumption | with_reducible exact Ext.refl _ | with_reducible apply Ext.drewN | with_reducible apply Ext.drew | with_reducible apply Ext.alloc | with_reducible refine Ext.set ?_ (by first | (simp; done) | (simp; omega)) _ | with_reducible refine Ext.next ?_ (by with_reducible assumption)))⟩
  cases k1' : wordsB rs
  · have HR := hid (show tabVals (ts.map Tn.dat) rs ls is = [] by unfold tabVals valsOk; rw [k1']; simp)
    have OK := hid ok
    have K1 := hid k1'
    clear ok k1'
    go_enter Try.func10, Try.ntmps10
    go_wp2_with fail
    refine (specTabOk _ _ ts _ (h.ext (by repeat (first | with_reducible assumption | with_reducible exact Ext.refl _ | with_reducible apply Ext.drewN | with_reducible apply Ext.drew | with_reducible apply Ext.alloc | with_reducible refine Ext.set ?_ (by first | (simp; done) | (simp; omega)) _ | with_reducible refine Ext.next ?_ (by with_reducible assumption)))) hs).mono ?_
    rintro e w1 ⟨rfl, hw1⟩
    rw [OK.out]
    go_wp2_with fail
    refine (specL1Words _ _ rs _ (h1.ext (by repeat (first | with_reducible assumption | with_reducible exact Ext.refl _ | with_reducible apply Ext.drewN | with_reducible apply Ext.drew | with_reducible apply Ext.alloc | with_reducible refine Ext.set ?_ (by first | (simp; done) | (simp; omega)) _ | with_reducible refine Ext.next ?_ (by with_reducible assumption)))) n1).mono ?_
    rintro e w' ⟨rfl, rfl⟩
    rw [K1.out]
    go_wp2
    go_ret
    exact ⟨some ⟨w.heap.size + 1, 0, none⟩, 0, by rw [HR.out]; rfl, by rw [HR.out]; exact ((made1 3 w _).ext (by repeat (first | with_reducible assumption | with_reducible exact Ext.refl _ | with_reducible apply Ext.drewN | with_reducible apply Ext.drew | with_reducible apply Ext.alloc | with_reducible refine Ext.set ?_ (by first | (simp; done) | (simp; omega)) _ | with_reducible refine Ext.next ?_ (by with_reducible assumption)))).base (by omega), (by repeat (first | with_reducible assumption | with_reducible exact Ext.refl _ | with_reducible apply Ext.drewN | with_reducible apply Ext.drew | with_reducible apply Ext.alloc | with_reducible refine Ext.set ?_ (by first | (simp; done) | (simp; omega)) _ | with_reducible refine Ext.next ?_ (by with_reducible assumption)))⟩
  cases k2' : wordsB ls
  · have HR := hid (show tabVals (ts.map Tn.dat) rs ls is = [] by unfold tabVals valsOk; rw [k2']; simp)
    have OK := hid ok
    have K1 := hid k1'
    have K2 := hid k2'
    clear ok k1' k2'
    go_enter Try.func10, Try.ntmps10
    go_wp2_with fail
    refine (specTabOk _ _ ts _ (h.ext (by repeat (first | with_reducible assumption | with_reducible exact Ext.refl _ | with_reducible apply Ext.drewN | with_reducible apply Ext.drew | with_reducible apply Ext.alloc | with_reducible refine Ext.set ?_ (by first | (simp; done) | (simp; omega)) _ | with_reducible refine Ext.next ?_ (by with_reducible assumption)))) hs).mono ?_
    rintro e w1 ⟨rfl, hw1⟩
    rw [OK.out]
    go_wp2_with fail
    refine (specL1Words _ _ rs _ (h1.ext (by repeat (first | with_reducible assumption | with_reducible exact Ext.refl _ | with_reducible apply Ext.drewN | with_reducible apply Ext.drew | with_reducible apply Ext.alloc | with_reducible refine Ext.set ?_ (by first | (simp; done) | (simp; omega)) _ | with_reducible refine Ext.next ?_ (by with_reducible assumption)))) n1).mono ?_
    rintro e w' ⟨rfl, rfl⟩
    rw [K1.out]
    go_wp2_with fail
    refine (specL1Words _ _ ls _ (h2.ext (by repeat (first | with_reducible assumption | with_reducible exact Ext.refl _ | with_reducible apply Ext.drewN | with_reducible apply Ext.drew | with_reducible apply Ext.alloc | with_reducible refine Ext.set ?_ (by first | (simp; done) | (simp; omega)) _ | with_reducible refine Ext.next ?_ (by with_reducible assumption)))) n2).mono ?_
    rintro e w' ⟨rfl, rfl⟩
    rw [K2.out]
    go_wp2
    go_ret
    exact ⟨some ⟨w.heap.size + 1, 0, none⟩, 0, by rw [HR.out]; rfl, by rw [HR.out]; exact ((made1 3 w _).ext (by repeat (first | with_reducible assumption | with_reducible exact Ext.refl _ | with_reducible apply Ext.drewN | with_reducible apply Ext.drew | with_reducible apply Ext.alloc | with_reducible refine Ext.set ?_ (by first | (simp; done) | (simp; omega)) _ | with_reducible refine Ext.next ?_ (by with_reducible assumption)))).base (by omega), (by repeat (first | with_reducible assumption | with_reducible exact Ext.refl _ | with_reducible apply Ext.drewN | with_reducible apply Ext.drew | with_reducible apply Ext.alloc | with_reducible refine Ext.set ?_ (by first | (simp; done) | (simp; omega)) _ | with_reducible refine Ext.next ?_ (by with_reducible assumption)))⟩
  cases k3' : wordsB is
  · have HR := hid (show tabVals (ts.map Tn.dat) rs ls is = [] by unfold tabVals valsOk; rw [k3']; simp)
    have OK := hid ok
    have K1 := hid k1'
    have K2 := hid k2'
    have K3 := hid k3'
    clear ok k1' k2' k3'
    go_enter Try.func10, Try.ntmps10
    go_wp2_with fail
    refine (specTabOk _ _ ts _ (h.ext (by repeat (first | with_reducible assumption | with_reducible exact Ext.refl _ | with_reducible apply Ext.drewN | with_reducible apply Ext.drew | with_reducible apply Ext.alloc | with_reducible refine Ext.set ?_ (by first | (simp; done) | (simp; omega)) _ | with_reducible refine Ext.next ?_ (by with_reducible assumption)))) hs).mono ?_
    rintro e w1 ⟨rfl, hw1⟩
    rw [OK.out]
    go_wp2_with fail
    refine (specL1Words _ _ rs _ (h1.ext (by repeat (first | with_reducible assumption | with_reducible exact Ext.refl _ | with_reducible apply Ext.drewN | with_reducible apply Ext.drew | with_reducible apply Ext.alloc | with_reducible refine Ext.set ?_ (by first | (simp; done) | (simp; omega)) _ | with_reducible refine Ext.next ?_ (by with_reducible assumption)))) n1).mono ?_
    rintro e w' ⟨rfl, rfl⟩
    rw [K1.out]
    go_wp2_with fail
    refine (specL1Words _ _ ls _ (h2.ext (by repeat (first | with_reducible assumption | with_reducible exact Ext.refl _ | with_reducible apply Ext.drewN | with_reducible apply Ext.drew | with_reducible apply Ext.alloc | with_reducible refine Ext.set ?_ (by first | (simp; done) | (simp; omega)) _ | with_reducible refine Ext.next ?_ (by with_reducible assumption)))) n2).mono ?_
    rintro e w' ⟨rfl, rfl⟩
    rw [K2.out]
    go_wp2_with fail
    refine (specL1Words _ _ is _ (h3.ext (by repeat (first | with_reducible assumption | with_reducible exact Ext.refl _ | with_reducible apply Ext.drewN | with_reducible apply Ext.drew | with_reducible apply Ext.alloc | with_reducible refine Ext.set ?_ (by first | (simp; done) | (simp; omega)) _ | with_reducible refine Ext.next ?_ (by with_reducible assumption)))) n3).mono ?_
    rintro e w' ⟨rfl, rfl⟩
    rw [K3.out]
    go_wp2
    go_ret
    exact ⟨some ⟨w.heap.size + 1, 0, none⟩, 0, by rw [HR.out]; rfl, by rw [HR.out]; exact ((made1 3 w _).ext (by repeat (first | with_reducible assumption | with_reducible exact Ext.refl _ | with_reducible apply Ext.drewN | with_reducible apply Ext.drew | with_reducible apply Ext.alloc | with_reducible refine Ext.set ?_ (by first | (simp; done) | (simp; omega)) _ | with_reducible refine Ext.next ?_ (by with_reducible assumption)))).base (by omega), (by repeat (first | with_reducible assumption | with_reducible exact Ext.refl _ | with_reducible apply Ext.drewN | with_reducible apply Ext.drew | with_reducible apply Ext.alloc | with_reducible refine Ext.set ?_ (by first | (simp; done) | (simp; omega)) _ | with_reducible refine Ext.next ?_ (by with_reducible assumption)))⟩
  have HR := hid (show tabVals (ts.map Tn.dat) rs ls is = tabRun rs ls is (ts.map Tn.dat) by unfold tabVals valsOk; rw [ok, k1', k2', k3']; rfl)
  have hlen : ts.length ≤ 200 := by have := tabOk_len ok; rw [List.length_map] at this; exact this
  have OK := hid ok
  have K1 := hid k1'
  have K2 := hid k2'
  have K3 := hid k3'
  have HWB : Hid (∀ j, wordsB (tabRun rs ls is ((ts.map Tn.dat).take j)) = true) := hid fun j => run_words k1' k2' k3' _ _ rfl
  have HTL : Hid (∀ j, j ≤ ts.length → (tabRun rs ls is ((ts.map Tn.dat).take j)).length = j) := hid fun j hj => by rw [tabRun_length, List.length_take, List.length_map]; omega
  clear ok k1' k2' k3'
  go_enter Try.func10, Try.ntmps10
  go_wp2_with fail
  refine (specTabOk _ _ ts _ (h.ext (by repeat (first | with_reducible assumption | with_reducible exact Ext.refl _ | with_reducible apply Ext.drewN | with_reducible apply Ext.drew | with_reducible apply Ext.alloc | with_reducible refine Ext.set ?_ (by first | (simp; done) | (simp; omega)) _ | with_reducible refine Ext.next ?_ (by with_reducible assumption)))) hs).mono ?_
  rintro e w1 ⟨rfl, hw1⟩
  rw [OK.out]
  obtain ⟨hc1, hf1⟩ := bcell_ hw1
  have hz1 : w.heap.size < w1.heap.size := by have := hw1.size; simp at this; omega
  go_wp2_with fail
  refine (specL1Words _ _ rs _ (h1.ext (by repeat (first | with_reducible assumption | with_reducible exact Ext.refl _ | with_reducible apply Ext.drewN | with_reducible apply Ext.drew | with_reducible apply Ext.alloc | with_reducible refine Ext.set ?_ (by first | (simp; done) | (simp; omega)) _ | with_reducible refine Ext.next ?_ (by with_reducible assumption)))) n1).mono ?_
  rintro e w' ⟨rfl, rfl⟩
  rw [K1.out]
  go_wp2_with fail
  refine (specL1Words _ _ ls _ (h2.ext (by repeat (first | with_reducible assumption | with_reducible exact Ext.refl _ | with_reducible apply Ext.drewN | with_reducible apply Ext.drew | with_reducible apply Ext.alloc | with_reducible refine Ext.set ?_ (by first | (simp; done) | (simp; omega)) _ | with_reducible refine Ext.next ?_ (by with_reducible assumption)))) n2).mono ?_
  rintro e w' ⟨rfl, rfl⟩
  rw [K2.out]
  go_wp2_with fail
  refine (specL1Words _ _ is _ (h3.ext (by repeat (first | with_reducible assumption | with_reducible exact Ext.refl _ | with_reducible apply Ext.drewN | with_reducible apply Ext.drew | with_reducible apply Ext.alloc | with_reducible refine Ext.set ?_ (by first | (simp; done) | (simp; omega)) _ | with_reducible refine Ext.next ?_ (by with_reducible assumption)))) n3).mono ?_
  rintro e w' ⟨rfl, rfl⟩
  rw [K3.out]
  have HC1 := hid (show w1.cell? ⟨w.heap.size, 0, none⟩ = some (.slice A ts.length k) by go_simp)
  have HM1 := hid ((made1 3 w (.cells #[.slice A ts.length k] 29)).ext (a := w1) (by repeat (first | with_reducible assumption | with_reducible exact Ext.refl _ | with_reducible apply Ext.drewN | with_reducible apply Ext.drew | with_reducible apply Ext.alloc | with_reducible refine Ext.set ?_ (by first | (simp; done) | (simp; omega)) _ | with_reducible refine Ext.next ?_ (by with_reducible assumption))))
  have HX1 := hid (show Ext w w1 from (by repeat (first | with_reducible assumption | with_reducible exact Ext.refl _ | with_reducible apply Ext.drewN | with_reducible apply Ext.drew | with_reducible apply Ext.alloc | with_reducible refine Ext.set ?_ (by first | (simp; done) | (simp; omega)) _ | with_reducible refine Ext.next ?_ (by with_reducible assumption))))
  go_wp2
  clear hc1 hf1
  go_loopw [9, 10] (fun s i wr => ∃ (j : Nat) (A' : Option Addr) (k' : Nat), i = .int .i64 j ∧ j ≤ ts.length ∧ s = .slice A' (tabRun rs ls is ((ts.map Tn.dat).take j)).length k' ∧ OI 3 wr (w.heap.size + 1) A' k' (tabRun rs ls is ((ts.map Tn.dat).take j)) ∧ wr.cell? ⟨w.heap.size, 0, none⟩ = some (.slice A ts.length k) ∧ Ext w wr) (fun _ i _ => ts.length - (intOf i).toNat)
  case atStart => exact ⟨0, some ⟨w.heap.size + 1, 0, none⟩, 0, rfl, Nat.zero_le _, rfl, HM1.out, HC1.out, HX1.out⟩
  case round =>
    obtain ⟨j, A', k', rfl, hj, rfl, ho, hcell, hext⟩ := hrel
    have hlw := World.block_lt_of_cell? _ _ hcell
    simp only at hlw
    by_cases hlt : j < ts.length
    · obtain ⟨b, o, m, rfl, hb, hm, d0, d1, d2, d3, hI1, hI2⟩ := (h.ext hext).at_ hlt
      have HT := hid (tabRun_take (rs := rs) (ls := ls) (is := is) (datT hm))
      obtain ⟨hz1, hz2⟩ := hs.at_ hm
      have HK := atomOk_kinds (tabOk_good OK.out (datT hm))
      have hly : (tabRun rs ls is ((ts.map Tn.dat).take j)).length ≤ 200 := by rw [HTL.out j (by omega)]; omega
      have HB := hid (HWB.out j)
      have hxs := hext.size
      clear hm
      generalize hys : tabRun rs ls is ((ts.map Tn.dat).take j) = ys at *
      clear hys
      have HO := hid ho
      clear ho
      obtain ⟨kd, kn, B1, e1, xs, B2, e2, zs⟩ := m
      simp only at d0 d1 d2 d3 hI1 hI2 hz1 hz2 HK
      rcases HK with ⟨rfl, q0, q1⟩ | ⟨rfl, q0, q1⟩ | ⟨rfl, q0, q1⟩ | ⟨rfl, q0, q1⟩
      · have HV := hid (show valOf rs ls is ys (Tn.dat ⟨1, kn, B1, e1, xs, B2, e2, zs⟩) = valAt rs kn from rfl)
        go_wp2_with (first | (go_at_call 25; refine (specAt A1 c1 rs kn _ (h1.ext (by repeat (first | with_reducible assumption | with_reducible exact Ext.refl _ | with_reducible apply Ext.drewN | with_reducible apply Ext.drew | with_reducible apply Ext.alloc | with_reducible refine Ext.set ?_ (by first | (simp; done) | (simp; omega)) _ | with_reducible refine Ext.next ?_ (by with_reducible assumption)))) n1 q0 (by omega)).mono ?_; rintro e w' ⟨rfl, rfl⟩) | (at_builtin; (refine app_int Try.underlying33 info_int rfl _ _ rfl (w.heap.size + 1) A' k' ys (HO.out.ext (by repeat (first | with_reducible assumption | with_reducible exact Ext.refl _ | with_reducible apply Ext.drewN | with_reducible apply Ext.drew | with_reducible apply Ext.alloc | with_reducible refine Ext.set ?_ (by first | (simp; done) | (simp; omega)) _ | with_reducible refine Ext.next ?_ (by with_reducible assumption)))) ys.length rfl rfl (valAt rs kn) _ 1 rfl (by rw [addr_add]; go_simp) (by omega) (by simp; omega) ?_); (intro A5 k5 w5 ho5 hu5); (have HUR := hid hu5); (have HO5 := hid ho5); (have HU5 : Hid (Ext w w5) := hid ((Upd.far2 (S := fun _ => False) (Upd.of_ext (by repeat (first | with_reducible assumption | with_reducible exact Ext.refl _ | with_reducible apply Ext.drewN | with_reducible apply Ext.drew | with_reducible apply Ext.alloc | with_reducible refine Ext.set ?_ (by first | (simp; done) | (simp; omega)) _ | with_reducible refine Ext.next ?_ (by with_reducible assumption)))) hu5 fun b hb => by have := (own_atB HO.out hb).1; omega).ext (fun b hb => hb.elim))); clear ho5 hu5))
        have q0 : w5.cell? ⟨w.heap.size, 0, none⟩ = some (.slice (some ⟨b, o, none⟩) ts.length k) := (HUR.out.cell (p := ⟨w.heap.size, 0, none⟩) (by simp; omega) (fun hb => absurd (own_atB HO.out hb).1 (by simp))).trans (keep (show Ext wr _ from (by repeat (first | with_reducible assumption | with_reducible exact Ext.refl _ | with_reducible apply Ext.drewN | with_reducible apply Ext.drew | with_reducible apply Ext.alloc | with_reducible refine Ext.set ?_ (by first | (simp; done) | (simp; omega)) _ | with_reducible refine Ext.next ?_ (by with_reducible assumption)))) hcell)
        go_roundw
        case rel => exact ⟨j + 1, A5, k5, by go_num, by omega, by rw [HT.out, List.length_append]; rfl, by rw [HT.out, HV.out]; exact HO5.out, q0, HU5.out⟩
        case measure => simp [intOf]; omega
      · have HV := hid (show valOf rs ls is ys (Tn.dat ⟨2, kn, B1, e1, xs, B2, e2, zs⟩) = valAt ls kn from rfl)
        go_wp2_with (first | (go_at_call 25; refine (specAt A2 c2 ls kn _ (h2.ext (by repeat (first | with_reducible assumption | with_reducible exact Ext.refl _ | with_reducible apply Ext.drewN | with_reducible apply Ext.drew | with_reducible apply Ext.alloc | with_reducible refine Ext.set ?_ (by first | (simp; done) | (simp; omega)) _ | with_reducible refine Ext.next ?_ (by with_reducible assumption)))) n2 q0 (by omega)).mono ?_; rintro e w' ⟨rfl, rfl⟩) | (at_builtin; (refine app_int Try.underlying33 info_int rfl _ _ rfl (w.heap.size + 1) A' k' ys (HO.out.ext (by repeat (first | with_reducible assumption | with_reducible exact Ext.refl _ | with_reducible apply Ext.drewN | with_reducible apply Ext.drew | with_reducible apply Ext.alloc | with_reducible refine Ext.set ?_ (by first | (simp; done) | (simp; omega)) _ | with_reducible refine Ext.next ?_ (by with_reducible assumption)))) ys.length rfl rfl (valAt ls kn) _ 1 rfl (by rw [addr_add]; go_simp) (by omega) (by simp; omega) ?_); (intro A5 k5 w5 ho5 hu5); (have HUR := hid hu5); (have HO5 := hid ho5); (have HU5 : Hid (Ext w w5) := hid ((Upd.far2 (S := fun _ => False) (Upd.of_ext (by repeat (first | with_reducible assumption | with_reducible exact Ext.refl _ | with_reducible apply Ext.drewN | with_reducible apply Ext.drew | with_reducible apply Ext.alloc | with_reducible refine Ext.set ?_ (by first | (simp; done) | (simp; omega)) _ | with_reducible refine Ext.next ?_ (by with_reducible assumption)))) hu5 fun b hb => by have := (own_atB HO.out hb).1; omega).ext (fun b hb => hb.elim))); clear ho5 hu5))
        have q0 : w5.cell? ⟨w.heap.size, 0, none⟩ = some (.slice (some ⟨b, o, none⟩) ts.length k) := (HUR.out.cell (p := ⟨w.heap.size, 0, none⟩) (by simp; omega) (fun hb => absurd (own_atB HO.out hb).1 (by simp))).trans (keep (show Ext wr _ from (by repeat (first | with_reducible assumption | with_reducible exact Ext.refl _ | with_reducible apply Ext.drewN | with_reducible apply Ext.drew | with_reducible apply Ext.alloc | with_reducible refine Ext.set ?_ (by first | (simp; done) | (simp; omega)) _ | with_reducible refine Ext.next ?_ (by with_reducible assumption)))) hcell)
        go_roundw
        case rel => exact ⟨j + 1, A5, k5, by go_num, by omega, by rw [HT.out, List.length_append]; rfl, by rw [HT.out, HV.out]; exact HO5.out, q0, HU5.out⟩
        case measure => simp [intOf]; omega
      · have HV := hid (show valOf rs ls is ys (Tn.dat ⟨3, kn, B1, e1, xs, B2, e2, zs⟩) = valAt is kn from rfl)
        go_wp2_with (first | (go_at_call 25; refine (specAt A3 c3 is kn _ (h3.ext (by repeat (first | with_reducible assumption | with_reducible exact Ext.refl _ | with_reducible apply Ext.drewN | with_reducible apply Ext.drew | with_reducible apply Ext.alloc | with_reducible refine Ext.set ?_ (by first | (simp; done) | (simp; omega)) _ | with_reducible refine Ext.next ?_ (by with_reducible assumption)))) n3 q0 (by omega)).mono ?_; rintro e w' ⟨rfl, rfl⟩) | (at_builtin; (refine app_int Try.underlying33 info_int rfl _ _ rfl (w.heap.size + 1) A' k' ys (HO.out.ext (by repeat (first | with_reducible assumption | with_reducible exact Ext.refl _ | with_reducible apply Ext.drewN | with_reducible apply Ext.drew | with_reducible apply Ext.alloc | with_reducible refine Ext.set ?_ (by first | (simp; done) | (simp; omega)) _ | with_reducible refine Ext.next ?_ (by with_reducible assumption)))) ys.length rfl rfl (valAt is kn) _ 1 rfl (by rw [addr_add]; go_simp) (by omega) (by simp; omega) ?_); (intro A5 k5 w5 ho5 hu5); (have HUR := hid hu5); (have HO5 := hid ho5); (have HU5 : Hid (Ext w w5) := hid ((Upd.far2 (S := fun _ => False) (Upd.of_ext (by repeat (first | with_reducible assumption | with_reducible exact Ext.refl _ | with_reducible apply Ext.drewN | with_reducible apply Ext.drew | with_reducible apply Ext.alloc | with_reducible refine Ext.set ?_ (by first | (simp; done) | (simp; omega)) _ | with_reducible refine Ext.next ?_ (by with_reducible assumption)))) hu5 fun b hb => by have := (own_atB HO.out hb).1; omega).ext (fun b hb => hb.elim))); clear ho5 hu5))
        have q0 : w5.cell? ⟨w.heap.size, 0, none⟩ = some (.slice (some ⟨b, o, none⟩) ts.length k) := (HUR.out.cell (p := ⟨w.heap.size, 0, none⟩) (by simp; omega) (fun hb => absurd (own_atB HO.out hb).1 (by simp))).trans (keep (show Ext wr _ from (by repeat (first | with_reducible assumption | with_reducible exact Ext.refl _ | with_reducible apply Ext.drewN | with_reducible apply Ext.drew | with_reducible apply Ext.alloc | with_reducible refine Ext.set ?_ (by first | (simp; done) | (simp; omega)) _ | with_reducible refine Ext.next ?_ (by with_reducible assumption)))) hcell)
        go_roundw
        case rel => exact ⟨j + 1, A5, k5, by go_num, by omega, by rw [HT.out, List.length_append]; rfl, by rw [HT.out, HV.out]; exact HO5.out, q0, HU5.out⟩
        case measure => simp [intOf]; omega
      · have HV := hid (show valOf rs ls is ys (Tn.dat ⟨4, kn, B1, e1, xs, B2, e2, zs⟩) = wrdDo kn (polEval (xs.map Mn.dat) ys) (polEval (zs.map Mn.dat) ys) from rfl)
        go_wp2
        refine wp_region_over (by kernel_rfl) (by kernel_rfl) ?_
        repeat (go_big_quiet_step ((first | (go_at_call_of 27 (Value.agg #[Value.slice B1 xs.length e1]); exact calls_over (specPolEval _ _ _ _ xs ys _ ((hI1.ext (by repeat (first | with_reducible assumption | with_reducible exact Ext.refl _ | with_reducible apply Ext.drewN | with_reducible apply Ext.drew | with_reducible apply Ext.alloc | with_reducible refine Ext.set ?_ (by first | (simp; done) | (simp; omega)) _ | with_reducible refine Ext.next ?_ (by with_reducible assumption)))).ext (Over.ext _)) hz1 ((HO.out.ri.ext (by repeat (first | with_reducible assumption | with_reducible exact Ext.refl _ | with_reducible apply Ext.drewN | with_reducible apply Ext.drew | with_reducible apply Ext.alloc | with_reducible refine Ext.set ?_ (by first | (simp; done) | (simp; omega)) _ | with_reducible refine Ext.next ?_ (by with_reducible assumption)))).ext (Over.ext _)) (by omega))) | (go_at_call_of 27 (Value.agg #[Value.slice B2 zs.length e2]); exact calls_over (specPolEval _ _ _ _ zs ys _ ((hI2.ext (by repeat (first | with_reducible assumption | with_reducible exact Ext.refl _ | with_reducible apply Ext.drewN | with_reducible apply Ext.drew | with_reducible apply Ext.alloc | with_reducible refine Ext.set ?_ (by first | (simp; done) | (simp; omega)) _ | with_reducible refine Ext.next ?_ (by with_reducible assumption)))).ext (Over.ext _)) hz2 ((HO.out.ri.ext (by repeat (first | with_reducible assumption | with_reducible exact Ext.refl _ | with_reducible apply Ext.drewN | with_reducible apply Ext.drew | with_reducible apply Ext.alloc | with_reducible refine Ext.set ?_ (by first | (simp; done) | (simp; omega)) _ | with_reducible refine Ext.next ?_ (by with_reducible assumption)))).ext (Over.ext _)) (by omega))) | (go_at_call 26; exact calls_over_same (specWrdDo _ _ _ _)))))
        refine wpQuiet_nil ?_
        rintro _ ⟨⟨wq, hwq⟩, rfl⟩
        have hsq := hwq.size
        (try simp at hsq)
        obtain ⟨hcq, hfq⟩ := bcell_ hwq
        go_wp2_with (at_builtin; (refine app_int Try.underlying33 info_int rfl _ _ rfl (w.heap.size + 1) A' k' ys (HO.out.ext (by repeat (first | with_reducible assumption | with_reducible exact Ext.refl _ | with_reducible apply Ext.drewN | with_reducible apply Ext.drew | with_reducible apply Ext.alloc | with_reducible refine Ext.set ?_ (by first | (simp; done) | (simp; omega)) _ | with_reducible refine Ext.next ?_ (by with_reducible assumption)))) ys.length rfl rfl (wrdDo kn (polEval (xs.map Mn.dat) ys) (polEval (zs.map Mn.dat) ys)) _ 1 rfl (by rw [addr_add]; go_simp) (by omega) (by simp; omega) ?_); (intro A5 k5 w5 ho5 hu5); (have HUR := hid hu5); (have HO5 := hid ho5); (have HU5 : Hid (Ext w w5) := hid ((Upd.far2 (S := fun _ => False) (Upd.of_ext (by repeat (first | with_reducible assumption | with_reducible exact Ext.refl _ | with_reducible apply Ext.drewN | with_reducible apply Ext.drew | with_reducible apply Ext.alloc | with_reducible refine Ext.set ?_ (by first | (simp; done) | (simp; omega)) _ | with_reducible refine Ext.next ?_ (by with_reducible assumption)))) hu5 fun b hb => by have := (own_atB HO.out hb).1; omega).ext (fun b hb => hb.elim))); clear ho5 hu5)
        have q0 : w5.cell? ⟨w.heap.size, 0, none⟩ = some (.slice (some ⟨b, o, none⟩) ts.length k) := (HUR.out.cell (p := ⟨w.heap.size, 0, none⟩) (by simp; omega) (fun hb => absurd (own_atB HO.out hb).1 (by simp))).trans (keep (show Ext wr _ from (by repeat (first | with_reducible assumption | with_reducible exact Ext.refl _ | with_reducible apply Ext.drewN | with_reducible apply Ext.drew | with_reducible apply Ext.alloc | with_reducible refine Ext.set ?_ (by first | (simp; done) | (simp; omega)) _ | with_reducible refine Ext.next ?_ (by with_reducible assumption)))) hcell)
        go_roundw
        case rel => exact ⟨j + 1, A5, k5, by go_num, by omega, by rw [HT.out, List.length_append]; rfl, by rw [HT.out, HV.out]; exact HO5.out, q0, HU5.out⟩
        case measure => simp [intOf]; omega
    · obtain rfl : j = ts.length := by omega
      have HE := hid (show tabRun rs ls is ((ts.map Tn.dat).take ts.length) = tabVals (ts.map Tn.dat) rs ls is by rw [HR.out, List.take_of_length_le (by rw [HL.out]; exact Nat.le_refl _)])
      have HO := hid ho
      clear ho
      go_wp2
      go_ret
      exact ⟨A', k', by rw [HE.out]; rfl, by rw [← HE.out]; exact HO.out.base (by omega), hext⟩
end Go.Proofs.Ytkdggfkigjpbfaa
