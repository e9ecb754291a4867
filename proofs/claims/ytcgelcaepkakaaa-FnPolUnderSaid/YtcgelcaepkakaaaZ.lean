/- Contract of the program's own sum of parts in any order. Conditions: fewer than 2^20 parts, each a word with at most 2^20 atoms. -/
import Derived.Test.YtcgelcaepkakaaaY
import Derived.Test.YtcgelcaepkakaaaI
import Derived.Test.YtcgelcaepkakaaaG
import Derived.Deep.RegionLaw
import Derived.Deep.DeepCutAuto
namespace Go.Proofs.Ytcgelcaepkakaaa
open Go Go.RowKit
set_option linter.unusedVariables false
set_option linter.unusedSimpArgs false

section
variable {P : Program} {TM TI TS : TypeId} {w : World} {ops : Array Oper} {o : Oper} {a : Act} {Q : Exit → Act → World → Prop} {K : Act → World → Prop} {E : Prop}
/-- 'append(list, m)' of one part with atoms of its own, as a step of a region that draws its order. -/
theorem step_app_own (hT : TM ≠ TI) (ht : P.underlying TS = some (.slice TM)) (hinf : (P.info? TM).map (fun i => (i.zero, i.size, i.bytes)) = some (some (.agg #[.int .i64 0, .slice none 0 0]), 2, 32))
    (hgd : o.guard = none) (s x : Operand) (ho : o.op = .call { callee := .builtin .append, args := #[s, x], argTypes := #[TS, TS] })
    (lo : Nat) (A : Option Addr) (k : Nat) (ms : List Mn) (hown : OM TM TI w lo A k ms) (n : Nat) (hln : ms.length = n) (hs : a.eval s = .slice A n k) (m : Mn) (ad : Addr) (kx : Nat) (hx : a.eval x = .slice (some ad) 1 kx)
    (hc0 : w.cell? (ad.add 0) = some (.int .i64 m.c)) (hc1 : w.cell? (ad.add 1) = some (.slice m.A m.xs.length m.k)) (hm : OI TI w lo m.A m.k m.xs) (hy : ∀ a ∈ ms, ∀ x, atB a.A x → ¬ atB m.A x) (hn : n < 1099511627776) (hlo : lo ≤ w.heap.size)
    (h : ∀ A' k' w', OM TM TI w' lo A' k' (ms ++ [m]) → Upd (atB A) w w' → K (a.put o.dst (.slice A' (n + 1) k')) w') : if Region.wanted o (yielded ops a.tmps) = true then Oper.wp P o a w K Q else E := by
  have hw : Region.wanted o (yielded ops a.tmps) = true := by simp [Region.wanted, hgd]
  rw [if_pos hw]
  subst hln
  obtain ⟨i, hi, hz, hz1, hz2⟩ := info_parts hinf
  refine wp_append_own w s x TS ho lo TM i _ 2 32 ht hi hz hz1 hz2 rfl (by decide) _ ms.length _ hs hown.1 ad 1 kx m.cells hx rfl ?_ ?_ (by unfold maxLen; omega) (by omega) hlo ?_
  · intro j u hj
    match j, hj with
    | 0, hj => injection hj with hj; subst hj; exact hc0
    | 1, hj => injection hj with hj; subst hj; exact hc1
  · intro u hu
    rcases List.mem_cons.1 hu with rfl | hu
    · rfl
    · rcases List.mem_cons.1 hu with rfl | hu
      · rfl
      · cases hu
  · intro v' w' ho' hg _
    obtain ⟨A', k', rfl, hnil⟩ := own_shape ho'
    have hk := grown_other hT hown.1 hg
    have keep1 : ∀ {x : Mn}, OI TI w lo x.A x.k x.xs → OI TI w' lo x.A x.k x.xs := fun {x} hx => by
      refine ⟨hx.1, ?_⟩
      rcases hx.2 with hx | ⟨g, cap, cur, e, hb, hg', r⟩
      · exact .inl hx
      · exact .inr ⟨g, cap, cur, e, hb, (hk _ _ _ hg').trans hg', r⟩
    refine h A' k' w' ⟨?_, fun x hx => ?_, ?_⟩ (grown_upd hg)
    · rw [flat_snoc, List.length_append]
      exact ho'
    · rcases List.mem_append.1 hx with hx | hx
      · exact keep1 (hown.2.1 x hx)
      · rw [List.mem_singleton.1 hx]
        exact keep1 hm
    · rw [List.pairwise_append]
      exact ⟨hown.2.2, List.pairwise_singleton _ _, fun a ha b hb => by rw [List.mem_singleton.1 hb]; exact hy a ha⟩
end

theorem cloneInts (A : Option Addr) (k n : Nat) (xs : List Int) (w : World) (h : RK 3 w A k xs) (hl : xs.length = n) (hn : n < 1099511627776) :
    Calls Try.prog 102 #[.slice A n k] w (RetI 3 w xs) := by
  subst hl
  go_enter Try.func102, Try.ntmps102
  go_wp2_with (at_builtin; (refine app_ints Try.underlying28 info_int rfl _ _ rfl w.heap.size none 0 [] (OI.nil _ _) 0 rfl rfl A k xs xs.length rfl rfl h.1 h.2 xs.length (by omega) hn (Nat.le_refl _) ?_); (intro A' k' w2 ho2 hu2))
  have HO2 := hid ho2
  have HE2 := hid (hu2.ext fun b hb => by obtain ⟨o, s, e⟩ := hb; cases e)
  clear ho2 hu2
  go_wp2
  go_ret
  exact ⟨A', k', by simp, HO2.out, HE2.out⟩

/-! ### parts of the same atoms together -/
theorem dat_take (ms : List Mn) {i : Nat} {m : Mn} (h : ms[i]? = some m) : (ms.take (i + 1)).map Mn.dat = (ms.take i).map Mn.dat ++ [m.dat] := by
  rw [List.take_add_one, h]
  simp
structure Grp (ms : List Mn) (out : List Mono) (i : Nat) : Prop where
  canon : Canon out
  cong : Cong out ((ms.take i).map Mn.dat)
  lt : ∀ y ∈ out, ∀ z, ms[i]? = some z → aOrd y.2 z.xs < 0
theorem grp_start (ms : List Mn) : Grp ms [] 0 := ⟨Canon.nil, by simpa using Cong.refl [], fun y h => by cases h⟩
structure Inn (ms : List Mn) (i0 i : Nat) (c : Int) (k0 : List Int) : Prop where
  lin : ∀ φ, wrap (lin φ ((ms.take i).map Mn.dat)) = wrap (lin φ ((ms.take i0).map Mn.dat) + c * φ k0)
  lo : 0 ≤ c
  hi : c ≤ 65535
theorem inn_start (ms : List Mn) (i : Nat) (k0 : List Int) : Inn ms i i 0 k0 := ⟨fun φ => by rw [Int.zero_mul, Int.add_zero], by omega, by omega⟩
theorem inn_step {ms : List Mn} {i0 i : Nat} {c : Int} {k0 : List Int} {m : Mn} (h : Inn ms i0 i c k0) (hm : ms[i]? = some m) (hk : m.xs = k0) : Inn ms i0 (i + 1) (wrap (c + m.c)) k0 := by
  have hb := wrap_bounds (c + m.c)
  refine ⟨fun φ => ?_, hb.1, by omega⟩
  rw [dat_take ms hm, lin_append, ← wrap_add_left, h.lin φ, wrap_add_left]
  have e2 : lin φ [m.dat] = m.c * φ k0 := by
    rw [← hk]
    show m.c * φ m.xs + 0 = _
    omega
  rw [e2, ← wrap_add_right (lin φ _) (wrap (c + m.c) * φ k0), wrap_mul_left, wrap_add_right, Int.add_mul]
  congr 1
  omega
theorem grp_step {ms : List Mn} {out : List Mono} {i j : Nat} {c : Int} {x : Mn} (hs : SrtF (key ms) 0 ms.length) (G : Grp ms out i) (hx : ms[i]? = some x) (hij : i < j) (hI : Inn ms i j c x.xs) (hz : ∀ z, ms[j]? = some z → aOrd x.xs z.xs ≠ 0) :
    Grp ms (if 0 < c then out ++ [(c, x.xs)] else out) j := by
  have h1 := G.lt
  have hxz : ∀ z, ms[j]? = some z → aOrd x.xs z.xs < 0 := fun z h => by
    have := hs i j (Nat.zero_le _) hij (List.getElem?_eq_some_iff.1 h).1
    rw [key_at hx, key_at h] at this
    have := hz z h
    omega
  by_cases hc : 0 < c
  · rw [if_pos hc]
    refine ⟨⟨chain_snoc G.canon.chain fun y hy => h1 y hy x hx, fun m hm => ?_⟩, fun φ => ?_, fun y hy z h => ?_⟩
    · rcases List.mem_append.1 hm with hm | hm
      · exact G.canon.coef m hm
      · rw [List.mem_singleton.1 hm]
        exact ⟨by simp only; omega, hI.hi⟩
    · have hg := G.cong φ
      rw [lin_append, hI.lin φ, ← wrap_add_left, hg, wrap_add_left]
      congr 1
      show _ + (c * φ x.xs + 0) = _
      omega
    · rcases List.mem_append.1 hy with hy | hy
      · exact aOrd_trans (h1 y hy x hx) (hxz z h)
      · rw [List.mem_singleton.1 hy]
        exact hxz z h
  · rw [if_neg hc]
    have : c = 0 := by have := hI.lo; omega
    subst this
    refine ⟨G.canon, fun φ => ?_, fun y hy z h => aOrd_trans (h1 y hy x hx) (hxz z h)⟩
    rw [hI.lin φ, Int.zero_mul, Int.add_zero]
    exact G.cong φ
theorem grp_end {ms ns : List Mn} {out : List Mono} {i : Nat} (G : Grp ms out i) (hi : ms.length ≤ i) (hp : ms.Perm ns) : out = norm (ns.map Mn.dat) := by
  refine norm_unique G.canon fun φ => ?_
  rw [G.cong φ, List.take_of_length_le hi, lin_perm φ (hp.map Mn.dat)]
end Go.Proofs.Ytcgelcaepkakaaa
