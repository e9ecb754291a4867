/- Contracts of what makes a word or an atom a sum. Conditions: none. -/
import Derived.Test.YtcgelcaepkakaaaN
import Derived.Test.YtcgelcaepkakaaaU
import Derived.Test.YtcgelcaepkakaaaH
namespace Go.Proofs.Ytcgelcaepkakaaa
open Go Go.RowKit
set_option linter.unusedVariables false
set_option linter.unusedSimpArgs false

def polConst (n : Int) : List (Int × List Int) := if inB n 1 65535 then [(n, [])] else []
def polAtom (n : Int) : List (Int × List Int) := if inB n 0 199 then [(1, [n])] else []
section
variable {TM TI : TypeId} {w : World}
theorem OI.nil (w : World) (lo : Nat) : OI TI w lo none 0 [] := ⟨rfl, .inl ⟨rfl, rfl⟩⟩
theorem OI.lit (w : World) (x : Int) : OI TI (w.alloc (.cells #[.int .i64 x] TI)) w.heap.size (some ⟨w.heap.size, 0, none⟩) 1 [x] := World.ownsRow_lit w #[.int .i64 x] 1 (Nat.le_refl _) (by unfold maxLen; omega) rfl
theorem OM.nil (w : World) (lo : Nat) : OM TM TI w lo none 0 [] := ⟨⟨rfl, .inl ⟨rfl, rfl⟩⟩, fun _ h => (by cases h), List.Pairwise.nil⟩
theorem OM.lit {lo : Nat} (m : Mn) (h : OI TI w lo m.A m.k m.xs) (hl : lo ≤ w.heap.size) : OM TM TI (w.alloc (.cells #[.int .i64 m.c, .slice m.A m.xs.length m.k] TM)) lo (some ⟨w.heap.size, 0, none⟩) 1 [m] :=
  ⟨World.ownsRow_lit w #[.int .i64 m.c, .slice m.A m.xs.length m.k] 1 hl (by unfold maxLen; omega) rfl, fun x hx => by rw [List.mem_singleton.1 hx]; exact h.ext ((Ext.refl _).alloc _), List.pairwise_singleton _ _⟩
end

theorem implPolConst (n : Int) (w : World) :
    Calls Try.prog 26 #[.int .i64 n] w (RetM 73 3 w (polConst n) (fun A n k => .agg #[.slice A n k])) := by
  cases hp : inB n 1 65535
  · have HZ := hid (show [] = polConst n by unfold polConst; rw [hp]; rfl)
    have HP := hid hp
    clear hp
    go_enter Try.func26, Try.ntmps26
    go_wp2_with (go_at_call 69; refine (implIn _ _ _ _).mono ?_; rintro e w' ⟨rfl, rfl⟩; rw [HP.out])
    refine bodyPost_ret (v := .agg #[.slice none 0 0]) (by simp [results, Try.results26, go_sem]) rfl ⟨none, 0, [], rfl, HZ.out, OM.nil _ _, (by repeat (first | with_reducible assumption | with_reducible exact Ext.refl _ | with_reducible apply Ext.drewN | with_reducible apply Ext.drew | with_reducible apply Ext.alloc | with_reducible refine Ext.set ?_ (by first | (simp; done) | (simp; omega)) _ | with_reducible refine Ext.next ?_ (by with_reducible assumption)))⟩
  · have HZ := hid (show [(n, ([] : List Int))] = polConst n by unfold polConst; rw [hp]; rfl)
    have HP := hid hp
    clear hp
    go_enter Try.func26, Try.ntmps26
    go_wp2_with (go_at_call 69; refine (implIn _ _ _ _).mono ?_; rintro e w' ⟨rfl, rfl⟩; rw [HP.out])
    refine bodyPost_ret (v := .agg #[.slice (some ⟨w.heap.size + 1, 0, none⟩) 1 1]) (by simp [results, Try.results26, go_sem]) rfl ⟨some ⟨w.heap.size + 1, 0, none⟩, 1, [⟨n, none, 0, []⟩], rfl, HZ.out, ?_, (by repeat (first | with_reducible assumption | with_reducible exact Ext.refl _ | with_reducible apply Ext.drewN | with_reducible apply Ext.drew | with_reducible apply Ext.alloc | with_reducible refine Ext.set ?_ (by first | (simp; done) | (simp; omega)) _ | with_reducible refine Ext.next ?_ (by with_reducible assumption)))⟩
    have ho := OM.lit (TM := 73) (TI := 3) (w := w.alloc (.cells #[.slice (some ⟨w.heap.size + 1, 0, none⟩) 1 1] 25)) ⟨n, none, 0, []⟩ (OI.nil _ _) (Nat.le_refl _)
    rw [World.size_alloc] at ho
    exact OM.base ho (Nat.le_succ _)

theorem specPolConst (n : Int) (w : World) :
    Calls Try.prog 37 #[.int .i64 n] w (RetM 73 3 w (polConst n) (fun A n k => .agg #[.slice A n k])) := by
  cases hp : inB n 1 65535
  · have HZ := hid (show [] = polConst n by unfold polConst; rw [hp]; rfl)
    have HP := hid hp
    clear hp
    go_enter Try.func37, Try.ntmps37
    go_wp2_with (go_at_call 82; refine (specL1In _ _ _ _).mono ?_; rintro e w' ⟨rfl, rfl⟩; rw [HP.out])
    refine bodyPost_ret (v := .agg #[.slice none 0 0]) (by simp [results, Try.results37, go_sem]) rfl ⟨none, 0, [], rfl, HZ.out, OM.nil _ _, (by repeat (first | with_reducible assumption | with_reducible exact Ext.refl _ | with_reducible apply Ext.drewN | with_reducible apply Ext.drew | with_reducible apply Ext.alloc | with_reducible refine Ext.set ?_ (by first | (simp; done) | (simp; omega)) _ | with_reducible refine Ext.next ?_ (by with_reducible assumption)))⟩
  · have HZ := hid (show [(n, ([] : List Int))] = polConst n by unfold polConst; rw [hp]; rfl)
    have HP := hid hp
    clear hp
    go_enter Try.func37, Try.ntmps37
    go_wp2_with (go_at_call 82; refine (specL1In _ _ _ _).mono ?_; rintro e w' ⟨rfl, rfl⟩; rw [HP.out])
    refine bodyPost_ret (v := .agg #[.slice (some ⟨w.heap.size + 1, 0, none⟩) 1 1]) (by simp [results, Try.results37, go_sem]) rfl ⟨some ⟨w.heap.size + 1, 0, none⟩, 1, [⟨n, none, 0, []⟩], rfl, HZ.out, ?_, (by repeat (first | with_reducible assumption | with_reducible exact Ext.refl _ | with_reducible apply Ext.drewN | with_reducible apply Ext.drew | with_reducible apply Ext.alloc | with_reducible refine Ext.set ?_ (by first | (simp; done) | (simp; omega)) _ | with_reducible refine Ext.next ?_ (by with_reducible assumption)))⟩
    have ho := OM.lit (TM := 73) (TI := 3) (w := w.alloc (.cells #[.slice (some ⟨w.heap.size + 1, 0, none⟩) 1 1] 25)) ⟨n, none, 0, []⟩ (OI.nil _ _) (Nat.le_refl _)
    rw [World.size_alloc] at ho
    exact OM.base ho (Nat.le_succ _)

theorem implPolAtom (n : Int) (w : World) :
    Calls Try.prog 38 #[.int .i64 n] w (RetM 73 3 w (polAtom n) (fun A n k => .agg #[.slice A n k])) := by
  cases hp : inB n 0 199
  · have HZ := hid (show [] = polAtom n by unfold polAtom; rw [hp]; rfl)
    have HP := hid hp
    clear hp
    go_enter Try.func38, Try.ntmps38
    go_wp2_with (go_at_call 69; refine (implIn _ _ _ _).mono ?_; rintro e w' ⟨rfl, rfl⟩; rw [HP.out])
    refine bodyPost_ret (v := .agg #[.slice none 0 0]) (by simp [results, Try.results38, go_sem]) rfl ⟨none, 0, [], rfl, HZ.out, OM.nil _ _, (by repeat (first | with_reducible assumption | with_reducible exact Ext.refl _ | with_reducible apply Ext.drewN | with_reducible apply Ext.drew | with_reducible apply Ext.alloc | with_reducible refine Ext.set ?_ (by first | (simp; done) | (simp; omega)) _ | with_reducible refine Ext.next ?_ (by with_reducible assumption)))⟩
  · have HZ := hid (show [((1 : Int), [n])] = polAtom n by unfold polAtom; rw [hp]; rfl)
    have HP := hid hp
    clear hp
    go_enter Try.func38, Try.ntmps38
    go_wp2_with (go_at_call 69; refine (implIn _ _ _ _).mono ?_; rintro e w' ⟨rfl, rfl⟩; rw [HP.out])
    refine bodyPost_ret (v := .agg #[.slice (some ⟨w.heap.size + 1 + 1, 0, none⟩) 1 1]) (by simp [results, Try.results38, go_sem]) rfl ⟨some ⟨w.heap.size + 1 + 1, 0, none⟩, 1, [⟨1, some ⟨w.heap.size + 1, 0, none⟩, 1, [n]⟩], rfl, HZ.out, ?_, (by repeat (first | with_reducible assumption | with_reducible exact Ext.refl _ | with_reducible apply Ext.drewN | with_reducible apply Ext.drew | with_reducible apply Ext.alloc | with_reducible refine Ext.set ?_ (by first | (simp; done) | (simp; omega)) _ | with_reducible refine Ext.next ?_ (by with_reducible assumption)))⟩
    have hi := OI.lit (TI := 3) (w.alloc (.cells #[.slice (some ⟨w.heap.size + 1 + 1, 0, none⟩) 1 1] 25)) n
    have ho := OM.lit (TM := 73) ⟨1, some ⟨(w.alloc (.cells #[.slice (some ⟨w.heap.size + 1 + 1, 0, none⟩) 1 1] 25)).heap.size, 0, none⟩, 1, [n]⟩ hi (by simp)
    simp only [World.size_alloc] at ho
    exact OM.base ho (Nat.le_succ _)

theorem specPolAtom (n : Int) (w : World) :
    Calls Try.prog 121 #[.int .i64 n] w (RetM 73 3 w (polAtom n) (fun A n k => .agg #[.slice A n k])) := by
  cases hp : inB n 0 199
  · have HZ := hid (show [] = polAtom n by unfold polAtom; rw [hp]; rfl)
    have HP := hid hp
    clear hp
    go_enter Try.func121, Try.ntmps121
    go_wp2_with (go_at_call 82; refine (specL1In _ _ _ _).mono ?_; rintro e w' ⟨rfl, rfl⟩; rw [HP.out])
    refine bodyPost_ret (v := .agg #[.slice none 0 0]) (by simp [results, Try.results121, go_sem]) rfl ⟨none, 0, [], rfl, HZ.out, OM.nil _ _, (by repeat (first | with_reducible assumption | with_reducible exact Ext.refl _ | with_reducible apply Ext.drewN | with_reducible apply Ext.drew | with_reducible apply Ext.alloc | with_reducible refine Ext.set ?_ (by first | (simp; done) | (simp; omega)) _ | with_reducible refine Ext.next ?_ (by with_reducible assumption)))⟩
  · have HZ := hid (show [((1 : Int), [n])] = polAtom n by unfold polAtom; rw [hp]; rfl)
    have HP := hid hp
    clear hp
    go_enter Try.func121, Try.ntmps121
    go_wp2_with (go_at_call 82; refine (specL1In _ _ _ _).mono ?_; rintro e w' ⟨rfl, rfl⟩; rw [HP.out])
    refine bodyPost_ret (v := .agg #[.slice (some ⟨w.heap.size + 1 + 1, 0, none⟩) 1 1]) (by simp [results, Try.results121, go_sem]) rfl ⟨some ⟨w.heap.size + 1 + 1, 0, none⟩, 1, [⟨1, some ⟨w.heap.size + 1, 0, none⟩, 1, [n]⟩], rfl, HZ.out, ?_, (by repeat (first | with_reducible assumption | with_reducible exact Ext.refl _ | with_reducible apply Ext.drewN | with_reducible apply Ext.drew | with_reducible apply Ext.alloc | with_reducible refine Ext.set ?_ (by first | (simp; done) | (simp; omega)) _ | with_reducible refine Ext.next ?_ (by with_reducible assumption)))⟩
    have hi := OI.lit (TI := 3) (w.alloc (.cells #[.slice (some ⟨w.heap.size + 1 + 1, 0, none⟩) 1 1] 25)) n
    have ho := OM.lit (TM := 73) ⟨1, some ⟨(w.alloc (.cells #[.slice (some ⟨w.heap.size + 1 + 1, 0, none⟩) 1 1] 25)).heap.size, 0, none⟩, 1, [n]⟩ hi (by simp)
    simp only [World.size_alloc] at ho
    exact OM.base ho (Nat.le_succ _)

theorem tot_one_of {ms : List Mn} {d : List (Int × List Int)} (h : ms.map Mn.dat = d) (hd : d = [] ∨ ∃ c xs, d = [(c, xs)] ∧ xs.length ≤ 1) : totM ms ≤ 2 := by
  rcases hd with rfl | ⟨c, xs, rfl, hx⟩
  · have : ms = [] := by simpa using h
    subst this
    exact Nat.zero_le _
  · match ms, h with
    | [m], h =>
      injection h with h _
      injection h with _ h
      subst h
      simp [totM]
      omega
theorem tot_const {ms : List Mn} {n : Int} (h : ms.map Mn.dat = polConst n) : totM ms ≤ 2 := tot_one_of h (by
  unfold polConst
  split
  · exact .inr ⟨_, _, rfl, by simp⟩
  · exact .inl rfl)
theorem tot_atom {ms : List Mn} {n : Int} (h : ms.map Mn.dat = polAtom n) : totM ms ≤ 2 := tot_one_of h (by
  unfold polAtom
  split
  · exact .inr ⟨_, _, rfl, by simp⟩
  · exact .inl rfl)
end Go.Proofs.Ytcgelcaepkakaaa
