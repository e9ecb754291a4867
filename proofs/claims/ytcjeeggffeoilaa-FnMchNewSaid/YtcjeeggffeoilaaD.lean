/- Contracts of the reference's draws: what is drawn is in bounds. Conditions: fewer than 2^40 bytes drawn. -/
import Derived.Test.YtcjeeggffeoilaaM
import Derived.Test.YtcjeeggffeoilaaW
namespace Go.Proofs.Ytcjeeggffeoilaa
open Go Go.RowKit
set_option linter.unusedVariables false
set_option linter.unusedSimpArgs false

theorem AB.lt_ {w : World} {A : Option Addr} {bs : List Int} (h : AB w A bs) (hn : bs ≠ []) {b o : Nat} (e : A = some ⟨b, o, none⟩) : b < w.heap.size := by
  obtain ⟨b', o', x, e', hb, _⟩ := h.at_ (i := 0) (List.length_pos_iff.2 hn)
  rw [e] at e'
  injection e' with e'
  injection e' with e' _ _
  omega
/-- A reader at r, of bytes that lie below it; c bytes are drawn. -/
structure Rd (w : World) (r : Nat) (A : Option Addr) (k n : Nat) (bs : List Int) (c : Nat) : Prop where
  b : w.cell? ⟨r, 0, none⟩ = some (.slice A n k)
  p : w.cell? ⟨r, 1, none⟩ = some (.int .i64 c)
  f : w.frozen? ⟨r, 1, none⟩ = false
  ab : AB w A bs
  lt : bs ≠ [] → ∀ b o, A = some ⟨b, o, none⟩ → b < r
  n_le : n ≤ bs.length
  n_lt : n ≤ 2000
theorem Rd.size {w : World} {r : Nat} {A : Option Addr} {k n : Nat} {bs : List Int} {c : Nat} (h : Rd w r A k n bs c) : r < w.heap.size := World.block_lt_of_cell? _ _ h.b
theorem Rd.ext {w w' : World} {r : Nat} {A : Option Addr} {k n : Nat} {bs : List Int} {c : Nat} (h : Rd w r A k n bs c) (he : Ext w w') : Rd w' r A k n bs c :=
  ⟨keep he h.b, keep he h.p, keepf he h.p h.f, h.ab.ext he, h.lt, h.n_le, h.n_lt⟩
theorem AB.upd {w w' : World} {A : Option Addr} {bs : List Int} {r : Nat} (h : AB w A bs) (hl : bs ≠ [] → ∀ b o, A = some ⟨b, o, none⟩ → b < r) (he : Upd (fun b => b = r) w w') : AB w' A bs :=
  ⟨fun hn => by
    obtain ⟨b, o, h1, h2⟩ := h.1 hn
    exact ⟨b, o, h1, fun j u hu => (he.cell (World.block_lt_of_cell? _ _ (h2 j u hu)) (fun e => by have := hl (by rintro rfl; exact hn rfl) b o h1; simp only at e; omega)).trans (h2 j u hu)⟩, h.2⟩

theorem tmod_at {x n : Nat} (h : 0 < n) : Int.tmod (x : Int) (n : Int) = ((x % n : Nat) : Int) := by
  rw [Int.tmod_eq_emod_of_nonneg (by omega)]
  rfl
theorem tdiv_at {x n : Nat} : Int.tdiv (x : Int) (n : Int) = ((x / n : Nat) : Int) := rfl
theorem xor_nat (a b : Nat) (ha : a < 2 ^ 62) (hb : b < 2 ^ 62) : bits .xor .i64 (a : Int) (b : Int) = ((a ^^^ b : Nat) : Int) ∧ a ^^^ b < 2 ^ 62 := by
  have hx : a ^^^ b < 2 ^ 62 := Nat.xor_lt_two_pow ha hb
  refine ⟨?_, hx⟩
  show IntKind.i64.wrap ((BitVec.ofInt 64 a ^^^ BitVec.ofInt 64 b).toNat : Int) = _
  rw [BitVec.toNat_xor, BitVec.toNat_ofInt, BitVec.toNat_ofInt, IntKind.wrap_i64]
  have h1 : ((a : Int) % ((2 ^ 64 : Nat) : Int)).toNat = a := by omega
  have h2 : ((b : Int) % ((2 ^ 64 : Nat) : Int)).toNat = b := by omega
  rw [h1, h2]
  omega

/-- What a draw leaves: a number in bounds, and one byte less. -/
def RetPick (w : World) (r : Nat) (A : Option Addr) (k m : Nat) (bs : List Int) (c : Nat) (n : Int) (e : Ending) (w' : World) : Prop :=
  ∃ v : Int, e = .returned (.int .i64 v) ∧ 0 ≤ v ∧ (1 ≤ n → v < n) ∧ Rd w' r A k m bs (c + 1) ∧ Upd (fun b => b = r) w w'

theorem pick (r : Nat) (A : Option Addr) (k m : Nat) (bs : List Int) (c : Nat) (n : Int) (w : World) (h : Rd w r A k m bs c) (hc : c < 1099511627776) :
    Calls Try.prog 26 #[.pointer (some ⟨r, 0, none⟩), .int .i64 n] w (RetPick w r A k m bs c n) := by
  have hr := h.size
  have hcb := h.b
  have hcp := h.p
  have hcf := h.f
  have hmb := h.n_le
  have hmm := h.n_lt
  have hu : Upd (fun b => b = r) w (w.setCell ⟨r, 1, none⟩ (.int .i64 ((c : Int) + 1))) := Upd.set (S := fun b => b = r) (Upd.refl _ _) (p := ⟨r, 1, none⟩) (.inl rfl) _
  have HR : Hid (Rd (w.setCell ⟨r, 1, none⟩ (.int .i64 ((c : Int) + 1))) r A k m bs (c + 1)) := hid ⟨by go_simp, by go_simp, by go_simp, h.ab.upd h.lt hu, h.lt, h.n_le, h.n_lt⟩
  have HU := hid hu
  clear hu
  by_cases h1 : n < 1
  · go_enter Try.func26, Try.ntmps26
    go_wp2
    go_ret
    exact ⟨0, rfl, Int.le_refl _, fun hx => by omega, HR.out, HU.out⟩
  by_cases h0 : m = 0
  · subst h0
    go_enter Try.func26, Try.ntmps26
    go_wp2
    go_ret
    exact ⟨0, rfl, Int.le_refl _, fun hx => by omega, HR.out, HU.out⟩
  have hm0 : ((m : Int) == 0) = false := by rw [beq_eq_false_iff_ne]; omega
  obtain ⟨nn, rfl⟩ : ∃ nn : Nat, n = nn := ⟨n.toNat, by omega⟩
  have hn0 : ((nn : Int) == 0) = false := by rw [beq_eq_false_iff_ne]; omega
  by_cases h2 : c < m
  · obtain ⟨b, o, x, rfl, hb, hx, hcell⟩ := h.ab.at_ (i := c) (by omega)
    have hbr := h.lt (by rintro rfl; simp at hmb; omega) b o rfl
    obtain ⟨xn, rfl⟩ : ∃ xn : Nat, x = xn := ⟨x.toNat, by omega⟩
    have HT := hid (tmod_at (x := xn) (n := nn) (by omega))
    have HL := hid (Nat.mod_lt xn (show 0 < nn by omega))
    clear h
    go_enter Try.func26, Try.ntmps26
    go_wp2
    go_ret
    exact ⟨((xn % nn : Nat) : Int), ret_int HT.out, by omega, fun _ => by have := HL.out; omega, HR.out, HU.out⟩
  · obtain ⟨b, o, x, rfl, hb, hx, hcell⟩ := h.ab.at_ (i := c % m) (by have := Nat.mod_lt c (show 0 < m by omega); omega)
    obtain ⟨b', o', y, e', _, hy, hcell'⟩ := h.ab.at_ (i := (c * 7 + 3) % m) (by have := Nat.mod_lt (c * 7 + 3) (show 0 < m by omega); omega)
    injection e' with e'
    injection e' with e1 e2 _
    subst e1 e2
    have hbr := h.lt (by rintro rfl; simp at hmb; omega) b o rfl
    obtain ⟨xn, rfl⟩ : ∃ xn : Nat, x = xn := ⟨x.toNat, by omega⟩
    obtain ⟨yn, rfl⟩ : ∃ yn : Nat, y = yn := ⟨y.toNat, by omega⟩
    have hi1 := Nat.mod_lt c (show 0 < m by omega)
    have hi2 := Nat.mod_lt (c * 7 + 3) (show 0 < m by omega)
    have hd := Nat.div_le_self c m
    have hT1 : Int.tmod (c : Int) (m : Int) = ((c % m : Nat) : Int) := tmod_at (by omega)
    have hT2 : Int.tmod ((c : Int) * 7 + 3) (m : Int) = (((c * 7 + 3) % m : Nat) : Int) := tmod_at (x := c * 7 + 3) (by omega)
    have hT3 : Int.tdiv (c : Int) (m : Int) = ((c / m : Nat) : Int) := tdiv_at
    generalize c % m = i1 at *
    generalize (c * 7 + 3) % m = i2 at *
    generalize c / m = q at *
    obtain ⟨X, hX⟩ : ∃ X : Nat, (xn : Int) * 131 + (yn : Int) * 1117 + (c : Int) * 29 + (q : Int) * 53 = X := ⟨((xn : Int) * 131 + (yn : Int) * 1117 + (c : Int) * 29 + (q : Int) * 53).toNat, by omega⟩
    have hXl : X < 4503599627370496 := by omega
    have hT4 : Int.tdiv (X : Int) 64 = ((X / 64 : Nat) : Int) := tdiv_at (n := 64)
    have HB : Hid (bits .xor .i64 (X : Int) ((X : Int) / 64) = ((X ^^^ (X / 64) : Nat) : Int)) := hid (xor_nat X (X / 64) (by omega) (by omega)).1
    have HT := hid (tmod_at (x := X ^^^ (X / 64)) (n := nn) (by omega))
    have HL := hid (Nat.mod_lt (X ^^^ (X / 64)) (show 0 < nn by omega))
    clear h
    go_enter Try.func26, Try.ntmps26
    go_wp2
    refine wp_region_over (by kernel_rfl) (by kernel_rfl) ?_
    repeat (go_big_quiet_step (fail))
    refine wpQuiet_nil ?_
    rintro _ ⟨⟨wq, hwq⟩, rfl⟩
    go_wp2
    go_ret
    exact ⟨(((X ^^^ (X / 64)) % nn : Nat) : Int), ret_int (by rw [HB.out]; exact HT.out), by omega, fun _ => by have := HL.out; omega, HR.out.ext hwq, HU.out.next (.of_ext hwq)⟩

theorem open_ (A : Option Addr) (k : Nat) (bs : List Int) (w : World) (h : AB w A bs) (hn : bs.length ≤ 9223372036854775807) (hk : bs.length ≤ k) :
    Calls Try.prog 24 #[.slice A bs.length k] w fun e w' => ∃ r A' k' m, e = .returned (.pointer (some ⟨r, 0, none⟩)) ∧ Rd w' r A' k' m bs 0 ∧ w.heap.size ≤ r ∧ Ext w w' := by
  by_cases h2 : 2000 < bs.length
  · go_enter Try.func24, Try.ntmps24
    go_wp2
    go_ret
    exact ⟨w.heap.size, A, k, 2000, rfl, ⟨by go_simp, by go_simp, by go_simp, h.ext (by repeat (first | with_reducible assumption | with_reducible exact Ext.refl _ | with_reducible apply Ext.drewN | with_reducible apply Ext.drew | with_reducible apply Ext.alloc | with_reducible refine Ext.set ?_ (by first | (simp; done) | (simp; omega)) _ | with_reducible refine Ext.next ?_ (by with_reducible assumption))), fun hne b o e => h.lt_ hne e, by omega, by omega⟩, Nat.le_refl _, (by repeat (first | with_reducible assumption | with_reducible exact Ext.refl _ | with_reducible apply Ext.drewN | with_reducible apply Ext.drew | with_reducible apply Ext.alloc | with_reducible refine Ext.set ?_ (by first | (simp; done) | (simp; omega)) _ | with_reducible refine Ext.next ?_ (by with_reducible assumption)))⟩
  · go_enter Try.func24, Try.ntmps24
    go_wp2
    go_ret
    exact ⟨w.heap.size, A, k, bs.length, rfl, ⟨by go_simp, by go_simp, by go_simp, h.ext (by repeat (first | with_reducible assumption | with_reducible exact Ext.refl _ | with_reducible apply Ext.drewN | with_reducible apply Ext.drew | with_reducible apply Ext.alloc | with_reducible refine Ext.set ?_ (by first | (simp; done) | (simp; omega)) _ | with_reducible refine Ext.next ?_ (by with_reducible assumption))), fun hne b o e => h.lt_ hne e, Nat.le_refl _, by omega⟩, Nat.le_refl _, (by repeat (first | with_reducible assumption | with_reducible exact Ext.refl _ | with_reducible apply Ext.drewN | with_reducible apply Ext.drew | with_reducible apply Ext.alloc | with_reducible refine Ext.set ?_ (by first | (simp; done) | (simp; omega)) _ | with_reducible refine Ext.next ?_ (by with_reducible assumption)))⟩

/-- One in so many. -/
theorem odd (r : Nat) (A : Option Addr) (k m : Nat) (bs : List Int) (c : Nat) (n : Int) (w : World) (h : Rd w r A k m bs c) (hc : c < 1099511627776) :
    Calls Try.prog 27 #[.pointer (some ⟨r, 0, none⟩), .int .i64 n] w fun e w' => ∃ v : Bool, e = .returned (.bool v) ∧ Rd w' r A k m bs (c + 1) ∧ Upd (fun b => b = r) w w' := by
  go_enter Try.func27, Try.ntmps27
  go_wp2_with fail
  refine (pick _ _ _ _ _ _ _ _ h hc).mono ?_
  rintro e w1 ⟨v, rfl, hv0, hv1, hR, hU⟩
  go_wp2
  go_ret
  exact ⟨_, rfl, hR, hU⟩

theorem lit_pick (L : List Int) (φ : Int → Prop) (h : ∀ x ∈ L, φ x) {i : Nat} (hi : i < L.length) : ∃ x, φ x ∧ L[i]? = some x := ⟨L[i], h _ (List.getElem_mem hi), List.getElem?_eq_getElem hi⟩
theorem lit_cell (w : World) (T : TypeId) {L : List Int} {i : Nat} {x : Int} (h : L[i]? = some x) : (w.alloc (.cells (L.map (Value.int .i64)).toArray T)).cell? ⟨w.heap.size, i, none⟩ = some (.int .i64 x) := by
  rw [cell_of_row _ _ _ _ T (0, 0) (heap_alloc_new w _), List.getElem?_toArray, List.getElem?_map, h]
  rfl
/-- What a draw of a number leaves: some bytes less. -/
def RetV (φ : Int → Prop) (w : World) (r : Nat) (A : Option Addr) (k m : Nat) (bs : List Int) (c c' : Nat) (e : Ending) (w' : World) : Prop :=
  ∃ (v : Int) (d : Nat), e = .returned (.int .i64 v) ∧ φ v ∧ d ≤ c' ∧ Rd w' r A k m bs d ∧ Upd (fun b => b = r) w w'

theorem word (r : Nat) (A : Option Addr) (k m : Nat) (bs : List Int) (c : Nat) (w : World) (h : Rd w r A k m bs c) (hc : c + 4 < 1099511627776) :
    Calls Try.prog 42 #[.pointer (some ⟨r, 0, none⟩)] w (RetV (fun v => 0 ≤ v ∧ v ≤ 65535) w r A k m bs c (c + 4)) := by
  have hrs := h.size
  go_enter Try.func42, Try.ntmps42
  go_wp2_with fail
  refine (pick _ _ _ _ _ _ _ _ h (by omega)).mono ?_
  rintro e w1 ⟨v, rfl, hv0, hv1, hR, hU⟩
  have hv2 := hv1 (by omega)
  clear hv1
  by_cases h0 : v = 0
  · subst h0
    go_wp2_with fail
    refine (pick _ _ _ _ _ _ _ _ (hR.ext (by repeat (first | with_reducible assumption | with_reducible exact Ext.refl _ | with_reducible apply Ext.drewN | with_reducible apply Ext.drew | with_reducible apply Ext.alloc | with_reducible refine Ext.set ?_ (by first | (simp; done) | (simp; omega)) _ | with_reducible refine Ext.next ?_ (by with_reducible assumption)))) (by omega)).mono ?_
    rintro e w2 ⟨u, rfl, hu0, hu1, hR2, hU2⟩
    have hu2 := hu1 (by omega)
    have hs := hU2.size
    have HU : Hid (Upd (fun b => b = r) w w2) := hid (hU.next ((Upd.of_ext (by repeat (first | with_reducible assumption | with_reducible exact Ext.refl _ | with_reducible apply Ext.drewN | with_reducible apply Ext.drew | with_reducible apply Ext.alloc | with_reducible refine Ext.set ?_ (by first | (simp; done) | (simp; omega)) _ | with_reducible refine Ext.next ?_ (by with_reducible assumption)))).next hU2))
    obtain ⟨un, rfl⟩ : ∃ un : Nat, u = un := ⟨u.toNat, by omega⟩
    obtain ⟨x, ⟨hx0, hx1⟩, hxL⟩ := lit_pick [0, 1, 2, 3, 65535, 32768, 255, 256, 65534] (fun v => 0 ≤ v ∧ v ≤ 65535) (by decide) (i := un) (show un < 9 by omega)
    have hxc := (hU2.cell (p := ⟨w1.heap.size, un, none⟩) (by simp) (by have := hR.size; simp only; omega)).trans (lit_cell w1 3 hxL)
    have hl2 := World.block_lt_of_cell? _ _ hxc
    simp only at hl2
    clear hU2 hU hxL
    go_wp2
    go_ret
    exact ⟨x, c + 2, rfl, ⟨hx0, hx1⟩, by omega, hR2, HU.out⟩
  by_cases h1 : v = 1
  · subst h1
    go_wp2_with fail
    refine (pick _ _ _ _ _ _ _ _ hR (by omega)).mono ?_
    rintro e w2 ⟨u, rfl, hu0, hu1, hR2, hU2⟩
    have hu2 := hu1 (by omega)
    go_wp2
    go_ret
    exact ⟨u, c + 2, rfl, ⟨hu0, by omega⟩, by omega, hR2, hU.next hU2⟩
  · have hb0 : (v == 0) = false := by rw [beq_eq_false_iff_ne]; exact h0
    have hb1 : (v == 1) = false := by rw [beq_eq_false_iff_ne]; exact h1
    go_wp2_with fail
    refine (pick _ _ _ _ _ _ _ _ hR (by omega)).mono ?_
    rintro e w2 ⟨u, rfl, hu0, hu1, hR2, hU2⟩
    have hu2 := hu1 (by omega)
    go_wp2_with fail
    refine (pick _ _ _ _ _ _ _ _ hR2 (by omega)).mono ?_
    rintro e w3 ⟨x, rfl, hx0, hx1, hR3, hU3⟩
    have hx2 := hx1 (by omega)
    go_wp2
    go_ret
    exact ⟨_, c + 3, rfl, ⟨by omega, by omega⟩, by omega, hR3, (hU.next hU2).next hU3⟩



