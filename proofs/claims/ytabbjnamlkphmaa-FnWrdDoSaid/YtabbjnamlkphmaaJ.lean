/- Contracts of the draws of words, and of the laws' own 'laOk'. Conditions: none. -/
import Derived.Test.YtabbjnamlkphmaaD
namespace Go.Proofs.Ytabbjnamlkphmaa
open Go Go.RowKit
set_option linter.unusedVariables false
set_option linter.unusedSimpArgs false

theorem laOk_ (w : World) : Calls Try.prog 24 #[] w fun e w' => e = .returned (.bool true) ∧ w = w' := by
  have h1 : wrdOk 1 = true := by decide
  go_enter Try.func24, Try.ntmps24
  go_wp2_with (go_at_call 19; refine (implWrdOk _ _).mono ?_; rintro e w' ⟨rfl, rfl⟩; rw [h1])
  go_ret
  exact ⟨rfl, rfl⟩

def Ret3 (w : World) (e : Ending) (w' : World) : Prop := ∃ o a b : Int, e = .returned (.tuple #[.int .i64 o, .int .i64 a, .int .i64 b]) ∧ Ext w w'

theorem drawRel (A : Option Addr) (k : Nat) (bs : List Int) (w : World) (h : AB w A bs) (hn : bs.length ≤ 9223372036854775807) (hk : bs.length ≤ k) :
    Calls Try.prog 21 #[.slice A bs.length k] w (Ret3 w) := by
  go_enter Try.func21, Try.ntmps21
  go_wp2_with fail
  refine (open_ _ _ _ _ h hn hk).mono ?_
  rintro e w1 ⟨r, A', k', m, rfl, hR, hr, hw1⟩
  go_wp2_with fail
  refine (wordOr _ _ _ _ _ _ _ _ hR (by omega)).mono ?_
  rintro e w2 ⟨v, d, rfl, _, hd, hR2, hU2⟩
  go_wp2_with fail
  refine (pick _ _ _ _ _ _ _ _ hR2 (by omega)).mono ?_
  rintro e w3 ⟨x, rfl, _, _, hR3, hU3⟩
  have hU := ((Upd.of_ext hw1).next hU2).next hU3
  clear hU2 hU3
  cases hx : x == 0
  · go_wp2_with fail
    refine (pick _ _ _ _ _ _ _ _ hR3 (by omega)).mono ?_
    rintro e w4 ⟨y, rfl, _, _, hR4, hU4⟩
    go_wp2_with fail
    refine (wordOr _ _ _ _ _ _ _ _ hR4 (by omega)).mono ?_
    rintro e w5 ⟨z, d5, rfl, _, hd5, hR5, hU5⟩
    have HE : Hid (Ext w w5) := hid (((hU.next hU4).next hU5).ext fun b hb => by subst hb; exact hr)
    clear hU hU4 hU5
    go_wp2
    go_ret3
    exact ⟨_, _, _, rfl, HE.out⟩
  · go_wp2_with fail
    refine (pick _ _ _ _ _ _ _ _ hR3 (by omega)).mono ?_
    rintro e w4 ⟨y, rfl, _, _, hR4, hU4⟩
    have HE : Hid (Ext w w4) := hid ((hU.next hU4).ext fun b hb => by subst hb; exact hr)
    clear hU hU4
    go_wp2
    go_ret3
    exact ⟨_, _, _, rfl, HE.out⟩

theorem drawDo (A : Option Addr) (k : Nat) (bs : List Int) (w : World) (h : AB w A bs) (hn : bs.length ≤ 9223372036854775807) (hk : bs.length ≤ k) :
    Calls Try.prog 25 #[.slice A bs.length k] w (Ret3 w) := by
  go_enter Try.func25, Try.ntmps25
  go_wp2_with fail
  refine (open_ _ _ _ _ h hn hk).mono ?_
  rintro e w1 ⟨r, A', k', m, rfl, hR, hr, hw1⟩
  go_wp2_with fail
  refine (wordOr _ _ _ _ _ _ _ _ hR (by omega)).mono ?_
  rintro e w2 ⟨v, d, rfl, _, hd, hR2, hU2⟩
  go_wp2_with fail
  refine (pick _ _ _ _ _ _ _ _ hR2 (by omega)).mono ?_
  rintro e w3 ⟨x, rfl, _, _, hR3, hU3⟩
  have hU := ((Upd.of_ext hw1).next hU2).next hU3
  clear hU2 hU3
  cases hx : x == 0
  · go_wp2_with fail
    refine (pick _ _ _ _ _ _ _ _ hR3 (by omega)).mono ?_
    rintro e w4 ⟨y, rfl, _, _, hR4, hU4⟩
    go_wp2_with fail
    refine (wordOr _ _ _ _ _ _ _ _ hR4 (by omega)).mono ?_
    rintro e w5 ⟨z, d5, rfl, _, hd5, hR5, hU5⟩
    have HE : Hid (Ext w w5) := hid (((hU.next hU4).next hU5).ext fun b hb => by subst hb; exact hr)
    clear hU hU4 hU5
    go_wp2
    go_ret3
    exact ⟨_, _, _, rfl, HE.out⟩
  · go_wp2_with fail
    refine (pick _ _ _ _ _ _ _ _ hR3 (by omega)).mono ?_
    rintro e w4 ⟨y, rfl, _, _, hR4, hU4⟩
    have HE : Hid (Ext w w4) := hid ((hU.next hU4).ext fun b hb => by subst hb; exact hr)
    clear hU hU4
    go_wp2
    go_ret3
    exact ⟨_, _, _, rfl, HE.out⟩
end Go.Proofs.Ytabbjnamlkphmaa
