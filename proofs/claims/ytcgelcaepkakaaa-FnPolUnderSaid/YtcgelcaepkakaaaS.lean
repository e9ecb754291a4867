/- Plain laws of parts that are turned about: exchanges, rotations, merging in place. No program in sight. Conditions: none. -/
import Derived.Test.YtcgelcaepkakaaaI
namespace Go.Proofs.Ytcgelcaepkakaaa
open Go
set_option linter.unusedVariables false

/-- The atoms of the part at a place. -/
def key (L : List Mn) (i : Nat) : List Int := ((L[i]?).map Mn.xs).getD []
theorem key_at {L : List Mn} {i : Nat} {m : Mn} (h : L[i]? = some m) : key L i = m.xs := by unfold key; rw [h]; rfl
/-- Parts in order, as far as they lie from a up to b. -/
def SrtF (f : Nat → List Int) (a b : Nat) : Prop := ∀ i j, a ≤ i → i < j → j < b → aOrd (f i) (f j) ≤ 0
theorem SrtF.le {f : Nat → List Int} {a b : Nat} (h : SrtF f a b) {i j : Nat} (hi : a ≤ i) (hij : i ≤ j) (hj : j < b) : aOrd (f i) (f j) ≤ 0 := by
  rcases Nat.lt_or_eq_of_le hij with h1 | rfl
  · exact h i j hi h1 hj
  · rw [aOrd_self]; exact Int.le_refl _
theorem SrtF.sub {f : Nat → List Int} {a b a' b' : Nat} (h : SrtF f a b) (ha : a ≤ a') (hb : b' ≤ b) : SrtF f a' b' := fun i j h1 h2 h3 => h i j (by omega) h2 (by omega)
theorem SrtF.congr {f g : Nat → List Int} {a b : Nat} (h : SrtF f a b) (e : ∀ t, a ≤ t → t < b → g t = f t) : SrtF g a b := fun i j h1 h2 h3 => by
  rw [e i h1 (by omega), e j (by omega) h3]
  exact h i j h1 h2 h3
theorem flip_le {a b : List Int} (h : 0 ≤ aOrd a b) : aOrd b a ≤ 0 := by rw [aOrd_neg a b]; omega
/-- What is turned about between a and b. -/
structure MvF (f g : Nat → List Int) (a b : Nat) : Prop where
  out : ∀ t, t < a ∨ b ≤ t → g t = f t
  from_ : ∀ t, a ≤ t → t < b → ∃ s, a ≤ s ∧ s < b ∧ g t = f s
theorem MvF.refl (f : Nat → List Int) (a b : Nat) : MvF f f a b := ⟨fun _ _ => rfl, fun t h1 h2 => ⟨t, h1, h2, rfl⟩⟩
theorem MvF.trans {f g h : Nat → List Int} {a b : Nat} (p : MvF f g a b) (q : MvF g h a b) : MvF f h a b := ⟨fun t ht => (q.out t ht).trans (p.out t ht), fun t h1 h2 => by
  obtain ⟨s, s1, s2, e⟩ := q.from_ t h1 h2
  obtain ⟨r, r1, r2, e'⟩ := p.from_ s s1 s2
  exact ⟨r, r1, r2, e.trans e'⟩⟩
theorem MvF.mono {f g : Nat → List Int} {a b a' b' : Nat} (p : MvF f g a b) (ha : a' ≤ a) (hb : b ≤ b') : MvF f g a' b' := ⟨fun t ht => p.out t (by omega), fun t h1 h2 => by
  rcases Nat.lt_or_ge t a with h | h
  · exact ⟨t, h1, h2, p.out t (.inl h)⟩
  · rcases Nat.lt_or_ge t b with h' | h'
    · obtain ⟨s, s1, s2, e⟩ := p.from_ t h h'
      exact ⟨s, by omega, by omega, e⟩
    · exact ⟨t, h1, h2, p.out t (.inr h')⟩⟩
/-- An exchange. -/
def SwpF (f g : Nat → List Int) (i j : Nat) : Prop := ∀ t, g t = if t = j then f i else if t = i then f j else f t
theorem SwpF.mv {f g : Nat → List Int} {i j a b : Nat} (h : SwpF f g i j) (hi : a ≤ i ∧ i < b) (hj : a ≤ j ∧ j < b) : MvF f g a b := by
  refine ⟨fun t ht => by rw [h t, if_neg (by omega), if_neg (by omega)], fun t h1 h2 => ?_⟩
  rw [h t]
  split
  · exact ⟨i, hi.1, hi.2, rfl⟩
  · split
    · exact ⟨j, hj.1, hj.2, rfl⟩
    · exact ⟨t, h1, h2, rfl⟩
def swp (L : List Mn) (i j : Nat) (x y : Mn) : List Mn := (L.set i y).set j x
section
variable {L : List Mn} {i j : Nat} {x y : Mn} (hx : L[i]? = some x) (hy : L[j]? = some y)
include hx hy
theorem swp_perm : (swp L i j x y).Perm L := by
  obtain ⟨hi, rfl⟩ := List.getElem?_eq_some_iff.1 hx
  obtain ⟨hj, rfl⟩ := List.getElem?_eq_some_iff.1 hy
  exact List.set_set_perm hi hj
theorem swp_at (t : Nat) : (swp L i j x y)[t]? = if t = j then L[i]? else if t = i then L[j]? else L[t]? := by
  obtain ⟨hi, _⟩ := List.getElem?_eq_some_iff.1 hx
  obtain ⟨hj, _⟩ := List.getElem?_eq_some_iff.1 hy
  unfold swp
  rw [List.getElem?_set]
  by_cases h1 : j = t
  · subst h1
    rw [if_pos rfl, if_pos (by rw [List.length_set]; exact hj), if_pos rfl, hx]
  · rw [if_neg h1, if_neg (by omega), List.getElem?_set]
    by_cases h2 : i = t
    · subst h2
      rw [if_pos rfl, if_pos hi, if_pos rfl, hy]
    · rw [if_neg h2, if_neg (by omega)]
theorem swp_key : SwpF (key L) (key (swp L i j x y)) i j := fun t => by
  unfold key
  rw [swp_at hx hy]
  split
  · rfl
  · split <;> rfl
end

/-! ### sorting by insertion -/
/-- The part at j is on its way down. -/
def InsF (f : Nat → List Int) (a i j : Nat) : Prop := ∀ p q, a ≤ p → p < q → q ≤ i → q ≠ j → aOrd (f p) (f q) ≤ 0
theorem ins_start {f : Nat → List Int} {a i : Nat} (h : SrtF f a i) : InsF f a i i := fun p q h1 h2 h3 h4 => h p q h1 h2 (by omega)
theorem ins_step {f g : Nat → List Int} {a i j : Nat} (H : InsF f a i (j + 1)) (haj : a ≤ j) (hji : j + 1 ≤ i) (hlt : aOrd (f (j + 1)) (f j) < 0) (hg : SwpF f g (j + 1) j) : InsF g a i j := by
  intro p q h1 h2 h3 h4
  rw [hg p, hg q]
  by_cases hq : q = j + 1
  · subst hq
    rw [if_neg (show ¬ j + 1 = j by omega), if_pos rfl]
    by_cases hp : p = j
    · rw [if_pos hp]; omega
    · rw [if_neg hp, if_neg (by omega)]
      exact H p j h1 (by omega) (by omega) (by omega)
  · rw [if_neg h4, if_neg hq]
    by_cases hp : p = j
    · rw [if_pos hp]
      exact H (j + 1) q (by omega) (by omega) h3 hq
    · rw [if_neg hp]
      by_cases hp' : p = j + 1
      · rw [if_pos hp']
        exact H j q haj (by omega) h3 hq
      · rw [if_neg hp']
        exact H p q h1 h2 h3 hq
theorem ins_done {f : Nat → List Int} {a i j : Nat} (H : InsF f a i j) (hj : j ≤ i) (h : j ≤ a ∨ 0 ≤ aOrd (f j) (f (j - 1))) : SrtF f a (i + 1) := by
  intro p q h1 h2 h3
  by_cases hq : q = j
  · subst hq
    rcases h with h | h
    · omega
    · by_cases hp : p = q - 1
      · rw [hp]; exact flip_le h
      · exact aOrd_le_trans (H p (q - 1) h1 (by omega) (by omega) (by omega)) (flip_le h)
  · exact H p q h1 h2 (by omega) hq

/-! ### rotating by exchanging ranges -/
/-- n parts from a on, and as many from b on, change places. -/
def RngF (f g : Nat → List Int) (a b n : Nat) : Prop := ∀ t, g t = if a ≤ t ∧ t < a + n then f (t + (b - a)) else if b ≤ t ∧ t < b + n then f (t - (b - a)) else f t
theorem rng_start (f : Nat → List Int) (a b : Nat) : RngF f f a b 0 := fun t => by rw [if_neg (by omega), if_neg (by omega)]
theorem rng_step {f g h : Nat → List Int} {a b n : Nat} (hab : a + n < b) (p : RngF f g a b n) (q : SwpF g h (a + n) (b + n)) : RngF f h a b (n + 1) := by
  intro t
  rw [q t]
  by_cases h1 : t = b + n
  · rw [if_pos h1, p, if_neg (by omega), if_neg (by omega), if_neg (by omega), if_pos (by omega)]
    congr 1
    omega
  · rw [if_neg h1]
    by_cases h2 : t = a + n
    · rw [if_pos h2, p, if_neg (by omega), if_neg (by omega), if_pos (by omega)]
      congr 1
      omega
    · rw [if_neg h2, p]
      by_cases h3 : a ≤ t ∧ t < a + n
      · rw [if_pos h3, if_pos (by omega)]
      · rw [if_neg h3, if_neg (show ¬ (a ≤ t ∧ t < a + (n + 1)) by omega)]
        by_cases h4 : b ≤ t ∧ t < b + n
        · rw [if_pos h4, if_pos (by omega)]
        · rw [if_neg h4, if_neg (by omega)]
theorem RngF.mv {f g : Nat → List Int} {a b n lo hi : Nat} (p : RngF f g a b n) (h1 : lo ≤ a) (h2 : a + n ≤ b) (h3 : b + n ≤ hi) : MvF f g lo hi := by
  refine ⟨fun t ht => by rw [p t, if_neg (by omega), if_neg (by omega)], fun t t1 t2 => ?_⟩
  rw [p t]
  split
  · exact ⟨t + (b - a), by omega, by omega, rfl⟩
  · split
    · exact ⟨t - (b - a), by omega, by omega, rfl⟩
    · exact ⟨t, t1, t2, rfl⟩
/-- The parts from a up to m, and those from m up to b, change places. -/
def RotF (f g : Nat → List Int) (a m b : Nat) : Prop := ∀ t, g t = if a ≤ t ∧ t < a + (b - m) then f (t + (m - a)) else if a + (b - m) ≤ t ∧ t < b then f (t - (b - m)) else f t
theorem RotF.mv {f g : Nat → List Int} {a m b : Nat} (p : RotF f g a m b) (h1 : a ≤ m) (h2 : m ≤ b) : MvF f g a b := by
  refine ⟨fun t ht => by rw [p t, if_neg (by omega), if_neg (by omega)], fun t t1 t2 => ?_⟩
  rw [p t]
  split
  · exact ⟨t + (m - a), by omega, by omega, rfl⟩
  · split
    · exact ⟨t - (b - m), by omega, by omega, rfl⟩
    · exact ⟨t, t1, t2, rfl⟩
/-- Of a rotation of f what is still to be done on c: i parts ahead of m, j parts from m on. -/
def RotI (f c : Nat → List Int) (a m b i j : Nat) : Prop := ∀ g, RotF c g (m - i) m (m + j) → RotF f g a m b
theorem rot_start (f : Nat → List Int) {a m b : Nat} (h1 : a ≤ m) (h2 : m ≤ b) : RotI f f a m b (m - a) (b - m) := fun g hg => by
  rwa [show m - (m - a) = a by omega, show m + (b - m) = b by omega] at hg
theorem rot_left {f c d : Nat → List Int} {a m b i j : Nat} (h : RotI f c a m b i j) (hi : i ≤ m) (hij : j < i) (hd : RngF c d (m - i) m j) : RotI f d a m b (i - j) j := by
  intro g hg
  refine h g fun t => ?_
  rw [hg t]
  by_cases h1 : m - i ≤ t ∧ t < m - i + (m + j - m)
  · rw [if_neg (by omega), if_neg (by omega), if_pos h1, hd t, if_pos (by omega)]
  · rw [if_neg h1]
    by_cases h2 : m - i + (m + j - m) ≤ t ∧ t < m + j
    · rw [if_pos h2]
      by_cases h3 : m - (i - j) ≤ t ∧ t < m - (i - j) + (m + j - m)
      · rw [if_pos h3, hd, if_neg (by omega), if_pos (by omega)]
        congr 1
        omega
      · rw [if_neg h3, if_pos (by omega), hd, if_neg (by omega), if_neg (by omega)]
    · rw [if_neg h2, if_neg (by omega), if_neg (by omega), hd, if_neg (by omega), if_neg (by omega)]
theorem rot_right {f c d : Nat → List Int} {a m b i j : Nat} (h : RotI f c a m b i j) (hi : i ≤ m) (hij : i < j) (hd : RngF c d (m - i) (m + j - i) i) : RotI f d a m b i (j - i) := by
  intro g hg
  refine h g fun t => ?_
  rw [hg t]
  by_cases h1 : m - i ≤ t ∧ t < m - i + (m + j - m)
  · rw [if_pos h1]
    by_cases h3 : m - i ≤ t ∧ t < m - i + (m + (j - i) - m)
    · rw [if_pos h3, hd, if_neg (by omega), if_neg (by omega)]
    · rw [if_neg h3]
      rw [if_pos (by omega), hd, if_pos (by omega)]
      congr 1
      omega
  · rw [if_neg h1, if_neg (by omega), if_neg (by omega), hd, if_neg (by omega)]
    by_cases h2 : m - i + (m + j - m) ≤ t ∧ t < m + j
    · rw [if_pos (by omega), if_pos h2]
      congr 1
      omega
    · rw [if_neg (by omega), if_neg h2]
theorem rot_done {f c d : Nat → List Int} {a m b i : Nat} (h : RotI f c a m b i i) (hi : i ≤ m) (hd : RngF c d (m - i) m i) : RotF f d a m b := by
  refine h d fun t => ?_
  rw [hd t]
  by_cases h1 : m - i ≤ t ∧ t < m - i + i
  · rw [if_pos h1, if_pos (by omega)]
  · rw [if_neg h1, if_neg (show ¬ (m - i ≤ t ∧ t < m - i + (m + i - m)) by omega)]
    by_cases h2 : m ≤ t ∧ t < m + i
    · rw [if_pos h2, if_pos (by omega)]
      congr 1
      omega
    · rw [if_neg h2, if_neg (by omega)]
/-- One part goes up, place by place. -/
theorem up_start (f : Nat → List Int) (a : Nat) : RotF f f a (a + 1) (a + 1) := fun t => by
  rw [if_neg (by omega)]
  split
  · congr 1; omega
  · rfl
theorem up_step {f g h : Nat → List Int} {a k : Nat} (hak : a ≤ k) (p : RotF f g a (a + 1) (k + 1)) (q : SwpF g h k (k + 1)) : RotF f h a (a + 1) (k + 1 + 1) := by
  intro t
  rw [q t]
  by_cases h1 : t = k + 1
  · rw [if_pos h1, p, if_neg (by omega), if_pos (by omega), if_neg (by omega), if_pos (by omega)]
    congr 1
    omega
  · rw [if_neg h1]
    by_cases h2 : t = k
    · rw [if_pos h2, p, if_neg (by omega), if_neg (by omega), if_pos (by omega)]
      congr 1
      omega
    · rw [if_neg h2, p]
      by_cases h3 : a ≤ t ∧ t < a + (k + 1 - (a + 1))
      · rw [if_pos h3, if_pos (by omega)]
      · rw [if_neg h3, if_neg (by omega), if_neg (by omega), if_neg (by omega)]
/-- One part goes down, place by place. -/
theorem down_start (f : Nat → List Int) (m : Nat) : RotF f f m m (m + 1) := fun t => by
  split
  · congr 1; omega
  · rw [if_neg (by omega)]
theorem down_step {f g h : Nat → List Int} {k m : Nat} (hkm : k + 1 ≤ m) (p : RotF f g (k + 1) m (m + 1)) (q : SwpF g h (k + 1) k) : RotF f h k m (m + 1) := by
  intro t
  rw [q t]
  by_cases h1 : t = k
  · rw [if_pos h1, p, if_pos (by omega), if_pos (by omega)]
    congr 1
    omega
  · rw [if_neg h1]
    by_cases h2 : t = k + 1
    · rw [if_pos h2, p, if_neg (by omega), if_neg (by omega), if_neg (by omega), if_pos (by omega)]
      congr 1
      omega
    · rw [if_neg h2, p]
      by_cases h3 : k + 1 + (m + 1 - m) ≤ t ∧ t < m + 1
      · rw [if_neg (by omega), if_pos h3, if_neg (by omega), if_pos (by omega)]
      · rw [if_neg (by omega), if_neg h3, if_neg (by omega), if_neg (by omega)]

theorem rot_id {f : Nat → List Int} {s m e : Nat} (h1 : s ≤ m) (h2 : m ≤ e) (h : ¬ (s < m ∧ m < e)) : RotF f f s m e := fun t => by
  by_cases c1 : s ≤ t ∧ t < s + (e - m)
  · rw [if_pos c1]; congr 1; omega
  · rw [if_neg c1]
    by_cases c2 : s + (e - m) ≤ t ∧ t < e
    · rw [if_pos c2]; congr 1; omega
    · rw [if_neg c2]

/-! ### merging -/
/-- Where the search of a merge begins and ends. -/
def Lims (a m b mid lo hi : Nat) : Prop := (mid < m ∧ lo + b = mid + m ∧ hi = mid) ∨ (m ≤ mid ∧ lo = a ∧ hi = m)
theorem merge_up {f g : Nat → List Int} {a b i : Nat} (hs : SrtF f (a + 1) b) (hi : a + 1 ≤ i ∧ i ≤ b) (h1 : i = a + 1 ∨ aOrd (f (i - 1)) (f a) < 0) (h2 : i = b ∨ 0 ≤ aOrd (f i) (f a))
    (p : RotF f g a (a + 1) i) : SrtF g a b := by
  intro u v hu huv hv
  rw [p u, p v]
  by_cases c1 : u < i - 1
  · rw [if_pos (by omega)]
    by_cases d1 : v < i - 1
    · rw [if_pos (by omega)]; exact hs _ _ (by omega) (by omega) (by omega)
    · rw [if_neg (by omega)]
      by_cases d2 : v = i - 1
      · rw [if_pos (by omega)]
        have h1' : aOrd (f (i - 1)) (f a) < 0 := by rcases h1 with h | h; (· omega); exact h
        rw [show v - (i - (a + 1)) = a by omega]
        exact aOrd_le_trans (hs.le (by omega) (show u + (a + 1 - a) ≤ i - 1 by omega) (by omega)) (Int.le_of_lt h1')
      · rw [if_neg (by omega)]; exact hs _ _ (by omega) (by omega) (by omega)
  · rw [if_neg (by omega)]
    by_cases c2 : u = i - 1
    · rw [if_pos (by omega), if_neg (by omega), if_neg (by omega), show u - (i - (a + 1)) = a by omega]
      have h2' : 0 ≤ aOrd (f i) (f a) := by rcases h2 with h | h; (· omega); exact h
      exact aOrd_le_trans (flip_le h2') (hs.le (by omega) (show i ≤ v by omega) hv)
    · rw [if_neg (by omega), if_neg (by omega), if_neg (by omega)]; exact hs _ _ (by omega) huv hv
theorem merge_down {f g : Nat → List Int} {a m i : Nat} (hs : SrtF f a m) (hi : a ≤ i ∧ i ≤ m) (h1 : i = a ∨ 0 ≤ aOrd (f m) (f (i - 1))) (h2 : i = m ∨ aOrd (f m) (f i) < 0)
    (p : RotF f g i m (m + 1)) : SrtF g a (m + 1) := by
  intro u v hu huv hv
  rw [p u, p v]
  by_cases d1 : v < i
  · rw [if_neg (by omega), if_neg (by omega), if_neg (by omega), if_neg (by omega)]; exact hs _ _ hu huv (by omega)
  · by_cases d2 : v = i
    · rw [if_neg (by omega), if_neg (by omega), if_pos (by omega), show v + (m - i) = m by omega]
      have h1' : 0 ≤ aOrd (f m) (f (i - 1)) := by rcases h1 with h | h; (· omega); exact h
      exact aOrd_le_trans (hs.le hu (show u ≤ i - 1 by omega) (by omega)) (flip_le h1')
    · rw [if_neg (show ¬ (i ≤ v ∧ v < i + (m + 1 - m)) by omega), if_pos (show i + (m + 1 - m) ≤ v ∧ v < m + 1 by omega)]
      by_cases c1 : u < i
      · rw [if_neg (by omega), if_neg (by omega)]; exact hs _ _ hu (by omega) (by omega)
      · by_cases c2 : u = i
        · rw [if_pos (by omega), show u + (m - i) = m by omega]
          have h2' : aOrd (f m) (f i) < 0 := by rcases h2 with h | h; (· omega); exact h
          exact aOrd_le_trans (Int.le_of_lt h2') (hs.le hi.1 (show i ≤ v - (m + 1 - m) by omega) (by omega))
        · rw [if_neg (by omega), if_pos (by omega)]; exact hs _ _ (by omega) (by omega) (by omega)
/-- What the search of a merge comes to. -/
structure Cut (f : Nat → List Int) (a m b mid s e : Nat) : Prop where
  mid2 : a + b - 1 ≤ 2 * mid ∧ 2 * mid ≤ a + b
  sum : s + e = mid + m
  bs : a ≤ s ∧ s ≤ mid ∧ mid ≤ e ∧ e ≤ b ∧ s ≤ m ∧ m ≤ e
  low : s = a ∨ e = b ∨ 0 ≤ aOrd (f e) (f (s - 1))
  high : s = mid ∨ e = mid ∨ aOrd (f (e - 1)) (f s) < 0
theorem cut_1 {f g : Nat → List Int} {a m b mid s e : Nat} (c : Cut f a m b mid s e) (p : RotF f g s m e) (t : Nat) (h1 : a ≤ t) (h2 : t < s) : g t = f t := by rw [p t, if_neg (by omega), if_neg (by omega)]
theorem cut_2 {f g : Nat → List Int} {a m b mid s e : Nat} (c : Cut f a m b mid s e) (p : RotF f g s m e) (t : Nat) (h1 : s ≤ t) (h2 : t < mid) : g t = f (t + (m - s)) := by have := c.sum; have := c.bs; rw [p t, if_pos (by omega)]
theorem cut_3 {f g : Nat → List Int} {a m b mid s e : Nat} (c : Cut f a m b mid s e) (p : RotF f g s m e) (t : Nat) (h1 : mid ≤ t) (h2 : t < e) : g t = f (t - (e - m)) := by have := c.sum; have := c.bs; rw [p t, if_neg (by omega), if_pos (by omega)]
theorem cut_4 {f g : Nat → List Int} {a m b mid s e : Nat} (c : Cut f a m b mid s e) (p : RotF f g s m e) (t : Nat) (h1 : e ≤ t) : g t = f t := by have := c.bs; rw [p t, if_neg (by omega), if_neg (by omega)]
theorem cut_s1 {f g : Nat → List Int} {a m b mid s e : Nat} (c : Cut f a m b mid s e) (hl : SrtF f a m) (hr : SrtF f m b) (p : RotF f g s m e) : SrtF g a s := fun i j h1 h2 h3 => by
  have := c.bs
  rw [cut_1 c p i h1 (by omega), cut_1 c p j (by omega) h3]
  exact hl _ _ h1 h2 (by omega)
theorem cut_s2 {f g : Nat → List Int} {a m b mid s e : Nat} (c : Cut f a m b mid s e) (hl : SrtF f a m) (hr : SrtF f m b) (p : RotF f g s m e) : SrtF g s mid := fun i j h1 h2 h3 => by
  have := c.bs
  have := c.sum
  rw [cut_2 c p i h1 (by omega), cut_2 c p j (by omega) h3]
  exact hr _ _ (by omega) (by omega) (by omega)
theorem cut_s3 {f g : Nat → List Int} {a m b mid s e : Nat} (c : Cut f a m b mid s e) (hl : SrtF f a m) (hr : SrtF f m b) (p : RotF f g s m e) : SrtF g mid e := fun i j h1 h2 h3 => by
  have := c.bs
  have := c.sum
  rw [cut_3 c p i h1 (by omega), cut_3 c p j (by omega) h3]
  exact hl _ _ (by omega) (by omega) (by omega)
theorem cut_s4 {f g : Nat → List Int} {a m b mid s e : Nat} (c : Cut f a m b mid s e) (hl : SrtF f a m) (hr : SrtF f m b) (p : RotF f g s m e) : SrtF g e b := fun i j h1 h2 h3 => by
  have := c.bs
  rw [cut_4 c p i h1, cut_4 c p j (by omega)]
  exact hr _ _ (by omega) h2 h3
theorem cut_x {f g : Nat → List Int} {a m b mid s e : Nat} (c : Cut f a m b mid s e) (hl : SrtF f a m) (hr : SrtF f m b) (p : RotF f g s m e) (i j : Nat) (hi : a ≤ i) (hi' : i < mid) (hj : mid ≤ j) (hj' : j < b) : aOrd (g i) (g j) ≤ 0 := by
  have hb := c.bs
  have hs := c.sum
  by_cases c1 : i < s
  · rw [cut_1 c p i hi c1]
    by_cases d1 : j < e
    · rw [cut_3 c p j hj d1]; exact hl.le hi (by omega) (by omega)
    · rw [cut_4 c p j (by omega)]
      have h : 0 ≤ aOrd (f e) (f (s - 1)) := by rcases c.low with h | h | h; (· omega); (· omega); exact h
      exact aOrd_le_trans (hl.le hi (show i ≤ s - 1 by omega) (by omega)) (aOrd_le_trans (flip_le h) (hr.le (by omega) (show e ≤ j by omega) hj'))
  · rw [cut_2 c p i (by omega) hi']
    by_cases d1 : j < e
    · rw [cut_3 c p j hj d1]
      have h : aOrd (f (e - 1)) (f s) < 0 := by rcases c.high with h | h | h; (· omega); (· omega); exact h
      exact aOrd_le_trans (hr.le (by omega) (show i + (m - s) ≤ e - 1 by omega) (by omega)) (aOrd_le_trans (Int.le_of_lt h) (hl.le (by omega) (show s ≤ j - (e - m) by omega) (by omega)))
    · rw [cut_4 c p j (by omega)]; exact hr.le (by omega) (by omega) hj'
/-- The halves merged, the whole is in order. -/
theorem cut_done {f g : Nat → List Int} {a m b mid s e : Nat} (c : Cut f a m b mid s e) (hl : SrtF f a m) (hr : SrtF f m b) (p : RotF f g s m e) {g1 g2 : Nat → List Int} (m1 : MvF g g1 a mid) (s1 : SrtF g1 a mid) (m2 : MvF g1 g2 mid b) (s2 : SrtF g2 mid b) : SrtF g2 a b ∧ MvF f g2 a b := by
  have hb := c.bs
  refine ⟨fun i j h1 h2 h3 => ?_, ((p.mv (by omega) (by omega)).mono (by omega) (by omega)).trans ((m1.mono (Nat.le_refl _) (by omega)).trans (m2.mono (by omega) (Nat.le_refl _)))⟩
  by_cases c1 : i < mid
  · rw [m2.out i (.inl c1)]
    by_cases d1 : j < mid
    · rw [m2.out j (.inl d1)]; exact s1 i j h1 h2 d1
    · obtain ⟨s', h4, h5, e1⟩ := m1.from_ i h1 c1
      obtain ⟨t', h6, h7, e2⟩ := m2.from_ j (by omega) h3
      rw [e1, e2, m1.out t' (.inr h6)]
      exact cut_x c hl hr p s' t' h4 h5 h6 h7
  · exact s2 i j (by omega) h2 h3

theorem Lims.bounds {a m b mid lo hi : Nat} (h : Lims a m b mid lo hi) (h1 : a + b - 1 ≤ 2 * mid) (h2 : 2 * mid ≤ a + b) (ha : a < m) (hb : m < b) : a ≤ lo ∧ lo ≤ hi ∧ hi ≤ m ∧ hi ≤ mid ∧ mid + m ≤ lo + b ∧ a ≤ mid ∧ mid < b := by
  unfold Lims at h
  omega
theorem Lims.cut {f : Nat → List Int} {a m b mid lo hi s : Nat} (h : Lims a m b mid lo hi) (h1 : a + b - 1 ≤ 2 * mid) (h2 : 2 * mid ≤ a + b) (ha : a < m) (hb : m < b) (hs1 : lo ≤ s) (hs2 : s ≤ hi)
    (low : s = lo ∨ 0 ≤ aOrd (f (mid + m - s)) (f (s - 1))) (high : s = hi ∨ aOrd (f (mid + m - 1 - s)) (f s) < 0) : Cut f a m b mid s (mid + m - s) := by
  have hb' := h.bounds h1 h2 ha hb
  unfold Lims at h
  refine ⟨⟨h1, h2⟩, by omega, by omega, ?_, ?_⟩
  · rcases low with low | low
    · omega
    · exact .inr (.inr low)
  · rcases high with high | high
    · omega
    · right; right
      rwa [show mid + m - s - 1 = mid + m - 1 - s by omega]

/-! ### blocks -/
theorem dvd_lt {n s a : Nat} (h1 : n ∣ s) (h2 : n ∣ a) (h : s < a) : s + n ≤ a := by
  obtain ⟨x, rfl⟩ := h1
  obtain ⟨y, rfl⟩ := h2
  have hxy : x < y := Nat.lt_of_mul_lt_mul_left h
  have := Nat.mul_le_mul_left n (show x + 1 ≤ y from hxy)
  rw [Nat.mul_add, Nat.mul_one] at this
  exact this
/-- Blocks of n parts that begin below hi are in order. -/
def BlkF (f : Nat → List Int) (n len lo hi : Nat) : Prop := ∀ s, n ∣ s → lo ≤ s → s < hi → s < len → SrtF f s (min (s + n) len)
theorem blk_step {f g : Nat → List Int} {n len a b : Nat} (hn : n ∣ a) (h : BlkF f n len 0 a) (m : MvF f g a b) (hb : min (a + n) len = b) (s : SrtF g a b) : BlkF g n len 0 (a + n) := by
  intro t h1 h2 h3 h4
  rcases Nat.lt_trichotomy t a with h5 | h5 | h5
  · have := dvd_lt h1 hn h5
    exact (h t h1 h2 h5 h4).congr fun u u1 u2 => m.out u (.inl (by omega))
  · subst h5; rw [hb]; exact s
  · have := dvd_lt hn h1 h5; omega
theorem blk_rest {f g : Nat → List Int} {n len a b : Nat} (h : BlkF f n len a len) (m : MvF f g a b) (hab : a ≤ b) : BlkF g n len b len := fun t h1 h2 h3 h4 =>
  (h t h1 (by omega) h3 h4).congr fun u u1 u2 => m.out u (.inr (by omega))
theorem blk_all {f : Nat → List Int} {n len : Nat} (h : BlkF f n len 0 len) (hl : len ≤ n) : SrtF f 0 len := by
  intro i j h1 h2 h3
  have := h 0 (Nat.dvd_zero n) (Nat.le_refl _) (by omega) (by omega)
  rw [show min (0 + n) len = len by omega] at this
  exact this i j h1 h2 h3
theorem blk_end {f : Nat → List Int} {n len a : Nat} (hn : n ∣ a) (h : BlkF f n len 0 a) (hl : len < a + n) (s : SrtF f a len) : BlkF f n len 0 len := by
  intro t h1 h2 h3 h4
  rcases Nat.lt_trichotomy t a with h5 | h5 | h5
  · exact h t h1 h2 h5 h4
  · subst h5; rw [show min (t + n) len = len by omega]; exact s
  · have := dvd_lt hn h1 h5; omega
end Go.Proofs.Ytcgelcaepkakaaa
