/- The stable sort of places by falling keys, in plain Lean: what an exchange of two ranges, a rotation, a merge and the rounds of merges make of a row. -/
import Derived.Sort.LotA
set_option linter.unusedVariables false
set_option linter.unusedSimpArgs false
set_option maxRecDepth 100000
namespace Go.Proofs.Ytccnfklemalmeaa
open Go.Sort

/-- x stands at or ahead of y: a greater key; or the same key and no later a place. -/
def Ahead (key : Nat → Int) (x y : Nat) : Prop := key y < key x ∨ (key x = key y ∧ x ≤ y)
/-- What the comparison tells. -/
def cmpKey (key : Nat → Int) (x y : Nat) : Int := if key y < key x then -1 else if key x < key y then 1 else 0

theorem cmpKey_lt {key : Nat → Int} {x y : Nat} : cmpKey key x y < 0 ↔ key y < key x := by
  unfold cmpKey
  by_cases h : key y < key x
  · simp [h]
  · by_cases h2 : key x < key y <;> simp [h, h2]
theorem Ahead.refl {key : Nat → Int} {x : Nat} : Ahead key x x := .inr ⟨rfl, Nat.le_refl _⟩
theorem Ahead.trans {key : Nat → Int} {x y z : Nat} (h : Ahead key x y) (h2 : Ahead key y z) : Ahead key x z := by
  unfold Ahead at *
  omega
theorem ahead_of_lt {key : Nat → Int} {x y : Nat} (h : key y < key x) : Ahead key x y := .inl h
theorem ahead_of_nlt {key : Nat → Int} {x y : Nat} (h : ¬ key x < key y) (hxy : x < y) : Ahead key x y := by
  unfold Ahead
  omega
theorem Ahead.antisymm {key : Nat → Int} {x y : Nat} (h : Ahead key x y) (h2 : Ahead key y x) : x = y := by
  unfold Ahead at *
  omega

/-- Sorted from a to b. -/
def SegS (key : Nat → Int) (a b : Nat) (d : Array Nat) : Prop := ∀ i j, a ≤ i → i < j → j < b → Ahead key d[i]! d[j]!
/-- Whatever lies in the left part is a smaller place than whatever lies in the right one. -/
def CrossS (a m b : Nat) (d : Array Nat) : Prop := ∀ i j, a ≤ i → i < m → m ≤ j → j < b → d[i]! < d[j]!

theorem at_eq {d : Array Nat} {i j : Nat} (h : i = j) : d[i]! = d[j]! := by rw [h]
theorem SegS.le {key : Nat → Int} {a b : Nat} {d : Array Nat} (h : SegS key a b d) {i j : Nat} (h1 : a ≤ i) (h2 : i ≤ j) (h3 : j < b) : Ahead key d[i]! d[j]! := by
  by_cases e : i = j
  · subst e; exact .refl
  · exact h i j h1 (by omega) h3
theorem SegS.sub {key : Nat → Int} {a b a' b' : Nat} {d : Array Nat} (h : SegS key a b d) (h1 : a ≤ a') (h2 : b' ≤ b) : SegS key a' b' d :=
  fun i j x y z => h i j (by omega) y (by omega)
theorem SegS.congr {key : Nat → Int} {a b : Nat} {d d' : Array Nat} (h : SegS key a b d) (e : ∀ i, a ≤ i → i < b → d'[i]! = d[i]!) : SegS key a b d' := fun i j x y z => by
  rw [e i (by omega) (by omega), e j (by omega) (by omega)]
  exact h i j x y z
theorem perm_mono {d d' : Array Nat} {a b a' b' : Nat} (h : PermIn a b d d') (h1 : a' ≤ a) (h2 : b ≤ b') (h3 : b' ≤ d.size) : PermIn a' b' d d' := permIn_mono d d' a b a' b' h1 h2 h3 h
theorem perm_trans {d d' d2 : Array Nat} {a b : Nat} (h : PermIn a b d d') (h2 : PermIn a b d' d2) : PermIn a b d d2 := permIn_trans d d' d2 a b h h2
theorem perm_all {d d' : Array Nat} {a b : Nat} (h : PermIn a b d d') (hb : b ≤ d.size) {p : Nat → Prop} (hp : ∀ i, a ≤ i → i < b → p d[i]!) : ∀ i, a ≤ i → i < b → p d'[i]! := permIn_all d d' a b p hb h hp

/-! ### an exchange of two ranges -/
def SwR (a b n : Nat) (d d' : Array Nat) : Prop :=
  (∀ x, x < n → d'[a + x]! = d[b + x]! ∧ d'[b + x]! = d[a + x]!) ∧ (∀ k, (k < a ∨ a + n ≤ k) → (k < b ∨ b + n ≤ k) → d'[k]! = d[k]!) ∧ PermIn a (b + n) d d'
theorem SwR.zero (a b : Nat) (d : Array Nat) : SwR a b 0 d d := ⟨fun x h => by omega, fun _ _ _ => rfl, permIn_refl _ _ _⟩
theorem SwR.step {a b i : Nat} {d dk : Array Nat} (h : SwR a b i d dk) (hab : a + i < b) (hb : b + i < d.size) : SwR a b (i + 1) d (swp dk (a + i) (b + i)) := by
  obtain ⟨h1, h2, h3⟩ := h
  have hs : dk.size = d.size := h3.1
  refine ⟨fun x hx => ?_, fun k k1 k2 => ?_, ?_⟩
  · by_cases e : x = i
    · subst e
      rw [swp_left _ _ _ (by omega) (by omega), swp_right _ _ _ (by omega)]
      exact ⟨h2 _ (.inr (by omega)) (.inr (by omega)), h2 _ (.inr (by omega)) (.inl (by omega))⟩
    · rw [swp_other _ _ _ _ (by omega) (by omega), swp_other _ _ _ _ (by omega) (by omega)]
      exact h1 x (by omega)
  · rw [swp_other _ _ _ _ (by omega) (by omega)]
    exact h2 k (by omega) (by omega)
  · exact perm_trans (perm_mono h3 (Nat.le_refl _) (by omega) (by omega)) (swp_permIn dk a (b + (i + 1)) (a + i) (b + i) (by omega) (by omega) (by omega) (by omega) (by omega))

/-! ### a rotation -/
def RotIn (a m b : Nat) (d d' : Array Nat) : Prop :=
  PermIn a b d d' ∧ (∀ x, x < b - m → d'[a + x]! = d[m + x]!) ∧ (∀ x, x < m - a → d'[a + (b - m) + x]! = d[a + x]!)
theorem rot_left {p m j : Nat} {d d2 d' : Array Nat} (h : SwR p m j d d2) (hj : p + j ≤ m) (hm : m + j ≤ d.size) (h' : RotIn (p + j) m (m + j) d2 d') : RotIn p m (m + j) d d' := by
  obtain ⟨s1, s2, s3⟩ := h
  obtain ⟨r1, r2, r3⟩ := h'
  have hs : d2.size = d.size := s3.1
  have ho := r1.2.1
  refine ⟨perm_trans s3 (perm_mono r1 (by omega) (Nat.le_refl _) (by omega)), fun x hx => ?_, fun x hx => ?_⟩
  · rw [ho (p + x) (.inl (by omega))]
    exact (s1 x (by omega)).1
  · by_cases e : x < j
    · have a1 := r2 x (by omega)
      have a2 := (s1 x e).2
      rw [at_eq (show p + (m + j - m) + x = p + j + x by omega), a1, a2]
    · obtain ⟨y, rfl⟩ : ∃ y, x = j + y := ⟨x - j, by omega⟩
      have a1 := r3 y (by omega)
      rw [at_eq (show p + (m + j - m) + (j + y) = p + j + (m + j - m) + y by omega), a1, s2 (p + j + y) (.inr (by omega)) (.inl (by omega))]
      exact at_eq (by omega)
theorem rot_right {p m i j : Nat} {d d2 d' : Array Nat} (hp : p + i = m) (h : SwR p (m + j - i) i d d2) (hj : i ≤ j) (hm : m + j ≤ d.size) (h' : RotIn p m (m + (j - i)) d2 d') : RotIn p m (m + j) d d' := by
  obtain ⟨s1, s2, s3⟩ := h
  obtain ⟨r1, r2, r3⟩ := h'
  have hs : d2.size = d.size := s3.1
  have ho := r1.2.1
  refine ⟨perm_trans (perm_mono s3 (Nat.le_refl _) (by omega) hm) (perm_mono r1 (Nat.le_refl _) (by omega) (by omega)), fun x hx => ?_, fun x hx => ?_⟩
  · by_cases e : x < j - i
    · rw [r2 x (by omega)]
      exact s2 (m + x) (.inr (by omega)) (.inl (by omega))
    · obtain ⟨y, rfl⟩ : ∃ y, x = j - i + y := ⟨x - (j - i), by omega⟩
      have a1 := r3 y (by omega)
      have a2 := (s1 y (by omega)).1
      rw [at_eq (show p + (j - i + y) = p + (m + (j - i) - m) + y by omega), a1, a2]
      exact at_eq (by omega)
  · have a2 := (s1 x (by omega)).2
    rw [ho (p + (m + j - m) + x) (.inr (by omega)), at_eq (show p + (m + j - m) + x = m + j - i + x by omega), a2]
theorem rot_end {p m i : Nat} {d d2 : Array Nat} (hp : p + i = m) (h : SwR p m i d d2) : RotIn p m (m + i) d d2 := by
  obtain ⟨s1, s2, s3⟩ := h
  refine ⟨s3, fun x hx => (s1 x (by omega)).1, fun x hx => ?_⟩
  rw [at_eq (show p + (m + i - m) + x = m + x by omega)]
  exact (s1 x (by omega)).2
theorem rot_none {a m b : Nat} {d : Array Nat} (h1 : a ≤ m) (h2 : m ≤ b) (h : a = m ∨ m = b) : RotIn a m b d d := by
  refine ⟨permIn_refl _ _ _, fun x hx => at_eq (by omega), fun x hx => at_eq (by omega)⟩

/-! ### one element put among the others -/
/-- d[a] moved up to the place i - 1. -/
def UpTo (a k : Nat) (d d' : Array Nat) : Prop := (∀ x, a ≤ x → x < k → d'[x]! = d[x + 1]!) ∧ d'[k]! = d[a]! ∧ (∀ x, k < x → d'[x]! = d[x]!) ∧ PermIn a (k + 1) d d'
theorem UpTo.start (a : Nat) (d : Array Nat) : UpTo a a d d := ⟨fun x h1 h2 => by omega, rfl, fun _ _ => rfl, permIn_refl _ _ _⟩
theorem UpTo.step {a k : Nat} {d dk : Array Nat} (h : UpTo a k d dk) (hak : a ≤ k) (hk : k + 1 < d.size) : UpTo a (k + 1) d (swp dk k (k + 1)) := by
  obtain ⟨h1, h2, h3, h4⟩ := h
  have hs : dk.size = d.size := h4.1
  refine ⟨fun x x1 x2 => ?_, ?_, fun x hx => ?_, ?_⟩
  · by_cases e : x = k
    · subst e
      rw [swp_left _ _ _ (by omega) (by omega)]
      exact h3 _ (by omega)
    · rw [swp_other _ _ _ _ (by omega) (by omega)]
      exact h1 x x1 (by omega)
  · rw [swp_right _ _ _ (by omega)]
    exact h2
  · rw [swp_other _ _ _ _ (by omega) (by omega)]
    exact h3 x (by omega)
  · exact perm_trans (perm_mono h4 (Nat.le_refl _) (by omega) (by omega)) (swp_permIn dk a (k + 1 + 1) k (k + 1) (by omega) (by omega) (by omega) (by omega) (by omega))
/-- d[m] moved down to the place i. -/
def DownTo (m k : Nat) (d d' : Array Nat) : Prop := (∀ x, k ≤ x → x < m → d'[x + 1]! = d[x]!) ∧ d'[k]! = d[m]! ∧ (∀ x, x < k → d'[x]! = d[x]!) ∧ PermIn k (m + 1) d d'
theorem DownTo.start (m : Nat) (d : Array Nat) : DownTo m m d d := ⟨fun x h1 h2 => by omega, rfl, fun _ _ => rfl, permIn_refl _ _ _⟩
theorem DownTo.step {m k : Nat} {d dk : Array Nat} (h : DownTo m (k + 1) d dk) (hm : k + 1 ≤ m) (hs0 : m < d.size) : DownTo m k d (swp dk (k + 1) k) := by
  obtain ⟨h1, h2, h3, h4⟩ := h
  have hs : dk.size = d.size := h4.1
  refine ⟨fun x x1 x2 => ?_, ?_, fun x hx => ?_, ?_⟩
  · by_cases e : x = k
    · subst e
      rw [swp_left _ _ _ (by omega) (by omega)]
      exact h3 _ (by omega)
    · rw [swp_other _ _ _ _ (by omega) (by omega)]
      exact h1 x (by omega) x2
  · rw [swp_right _ _ _ (by omega)]
    exact h2
  · rw [swp_other _ _ _ _ (by omega) (by omega)]
    exact h3 x (by omega)
  · exact perm_trans (perm_mono h4 (by omega) (Nat.le_refl _) (by omega)) (swp_permIn dk k (m + 1) (k + 1) k (by omega) (by omega) (by omega) (by omega) (by omega))

/-- What a merge leaves behind. -/
def Merged (key : Nat → Int) (a b : Nat) (d d' : Array Nat) : Prop := PermIn a b d d' ∧ SegS key a b d'
theorem merge_first {key : Nat → Int} {a b i : Nat} {d d' : Array Nat} (hb : b ≤ d.size) (hr : SegS key (a + 1) b d) (hc : CrossS a (a + 1) b d) (h1 : a + 1 ≤ i) (h2 : i ≤ b)
    (lo : ∀ k, a + 1 ≤ k → k < i → key d[a]! < key d[k]!) (hi : ∀ k, i ≤ k → k < b → ¬ key d[a]! < key d[k]!) (h : UpTo a (i - 1) d d') : Merged key a b d d' := by
  obtain ⟨u1, u2, u3, u4⟩ := h
  refine ⟨perm_mono u4 (Nat.le_refl _) (by omega) hb, fun x y hx hxy hy => ?_⟩
  by_cases e1 : y < i - 1
  · rw [u1 x hx (by omega), u1 y (by omega) e1]
    exact hr _ _ (by omega) (by omega) (by omega)
  · by_cases e2 : y = i - 1
    · subst e2
      rw [u1 x hx hxy, u2]
      exact ahead_of_lt (lo _ (by omega) (by omega))
    · rw [u3 y (by omega)]
      by_cases e3 : x < i - 1
      · rw [u1 x hx e3]
        exact hr.le (by omega) (by omega) hy
      · by_cases e4 : x = i - 1
        · subst e4
          rw [u2]
          have := hi y (by omega) hy
          exact ahead_of_nlt this (hc a y (Nat.le_refl _) (by omega) (by omega) hy)
        · rw [u3 x (by omega)]
          exact hr _ _ (by omega) hxy hy
theorem merge_last {key : Nat → Int} {a m i : Nat} {d d' : Array Nat} (hb : m < d.size) (hl : SegS key a m d) (hc : CrossS a m (m + 1) d) (h1 : a ≤ i) (h2 : i ≤ m)
    (lo : ∀ k, a ≤ k → k < i → ¬ key d[k]! < key d[m]!) (hi : ∀ k, i ≤ k → k < m → key d[k]! < key d[m]!) (h : DownTo m i d d') : Merged key a (m + 1) d d' := by
  obtain ⟨u1, u2, u3, u4⟩ := h
  refine ⟨perm_mono u4 h1 (Nat.le_refl _) (by omega), fun x y hx hxy hy => ?_⟩
  by_cases e1 : y < i
  · rw [u3 x (by omega), u3 y e1]
    exact hl _ _ hx hxy (by omega)
  · by_cases e2 : y = i
    · subst e2
      rw [u3 x hxy, u2]
      exact ahead_of_nlt (lo x hx hxy) (hc x m hx (by omega) (Nat.le_refl _) (by omega))
    · obtain ⟨z, rfl⟩ : ∃ z, y = z + 1 := ⟨y - 1, by omega⟩
      rw [u1 z (by omega) (by omega)]
      by_cases e3 : x < i
      · rw [u3 x e3]
        exact hl.le hx (by omega) (by omega)
      · by_cases e4 : x = i
        · subst e4
          rw [u2]
          exact ahead_of_lt (hi z (by omega) (by omega))
        · obtain ⟨v, rfl⟩ : ∃ v, x = v + 1 := ⟨x - 1, by omega⟩
          rw [u1 v (by omega) (by omega)]
          exact hl _ _ (by omega) (by omega) (by omega)

/-! ### the symmetric search -/
/-- Where the search stands: all below s say no, all from r on say yes. -/
def Srch (key : Nat → Int) (d : Array Nat) (p s0 r0 s r : Nat) : Prop :=
  (∀ c, s0 ≤ c → c < s → Ahead key d[c]! d[p - c]!) ∧ (∀ c, r ≤ c → c < r0 → Ahead key d[p - c]! d[c]!)
theorem Srch.start (key : Nat → Int) (d : Array Nat) (p s0 r0 : Nat) : Srch key d p s0 r0 s0 r0 := ⟨fun c h1 h2 => by omega, fun c h1 h2 => by omega⟩
/-- All that the search looks at lies in the two parts. -/
def Within (a m b p s0 r0 : Nat) : Prop := a ≤ s0 ∧ r0 ≤ m ∧ (s0 < r0 → p - s0 < b ∧ s0 ≤ p ∧ m ≤ p - (r0 - 1) ∧ r0 - 1 ≤ p)
theorem Srch.no {key : Nat → Int} {d : Array Nat} {a m b p s0 r0 s r c : Nat} (h : Srch key d p s0 r0 s r) (hw : Within a m b p s0 r0) (hl : SegS key a m d) (hr : SegS key m b d) (hc : CrossS a m b d)
    (h1 : s0 ≤ s) (h2 : s ≤ c) (h3 : c < r) (h4 : r ≤ r0) (hn : ¬ key d[c]! < key d[p - c]!) : Srch key d p s0 r0 (c + 1) r := by
  obtain ⟨w1, w2, w3⟩ := hw
  obtain ⟨w4, w5, w6, w7⟩ := w3 (by omega)
  have hk := ahead_of_nlt hn (hc c (p - c) (by omega) (by omega) (by omega) (by omega))
  refine ⟨fun x x1 x2 => ?_, h.2⟩
  exact ((hl.le (by omega) (by omega) (by omega)).trans hk).trans (hr.le (by omega) (by omega) (by omega))
theorem Srch.yes {key : Nat → Int} {d : Array Nat} {a m b p s0 r0 s r c : Nat} (h : Srch key d p s0 r0 s r) (hw : Within a m b p s0 r0) (hl : SegS key a m d) (hr : SegS key m b d)
    (h1 : s0 ≤ s) (h2 : s ≤ c) (h3 : c < r) (h4 : r ≤ r0) (hy : key d[c]! < key d[p - c]!) : Srch key d p s0 r0 s c := by
  obtain ⟨w1, w2, w3⟩ := hw
  obtain ⟨w4, w5, w6, w7⟩ := w3 (by omega)
  have hk := ahead_of_lt hy
  refine ⟨h.1, fun x x1 x2 => ?_⟩
  exact ((hr.le (by omega) (by omega) (by omega)).trans hk).trans (hl.le (by omega) (by omega) (by omega))

/-- Behind the rotation the row falls into two parts that need each a merge alone. -/
structure Halves (key : Nat → Int) (a s mid e b : Nat) (d : Array Nat) : Prop where
  l1 : SegS key a s d
  l2 : SegS key s mid d
  lc : CrossS a s mid d
  r1 : SegS key mid e d
  r2 : SegS key e b d
  rc : CrossS mid e b d
  ap : ∀ i j, a ≤ i → i < mid → mid ≤ j → j < b → Ahead key d[i]! d[j]!
/-- The two ways in which the search's range is cut: it begins at the row's own end, or it doesn't. -/
def Ends (a m b n s0 r0 : Nat) : Prop := (s0 = a ∧ r0 = m) ∨ (s0 + b = n ∧ r0 + m = n)
theorem halves {key : Nat → Int} {a m b mid s s0 r0 : Nat} {d d1 : Array Nat} (hw : Within a m b (mid + m - 1) s0 r0) (he : Ends a m b (mid + m) s0 r0) (h0 : a < m) (h00 : m < b) (hmid : a ≤ mid) (hmid2 : mid ≤ b)
    (h1 : s0 ≤ s) (h2 : s ≤ r0) (hb : b ≤ d.size) (hl : SegS key a m d) (hr : SegS key m b d) (hc : CrossS a m b d) (h : Srch key d (mid + m - 1) s0 r0 s s)
    (hse : s ≤ mid) (hsm : mid + m - s ≤ b) (hme : m ≤ mid + m - s) (rt : RotIn s m (mid + m - s) d d1) : Halves key a s mid (mid + m - s) b d1 := by
  obtain ⟨lo, hi⟩ := h
  obtain ⟨w1, w2, w3⟩ := hw
  obtain ⟨p1, p2, p3⟩ := rt
  have ho := p1.2.1
  -- what lies where
  have A : ∀ i, i < s → d1[i]! = d[i]! := fun i hi => ho i (.inl hi)
  have B : ∀ i, s ≤ i → i < mid → d1[i]! = d[i + (m - s)]! := fun i i1 i2 => by
    have := p2 (i - s) (by omega)
    rw [at_eq (show i = s + (i - s) by omega), this]
    exact at_eq (by omega)
  have C : ∀ i, mid ≤ i → i < mid + m - s → d1[i]! = d[i - (mid - s)]! := fun i i1 i2 => by
    have := p3 (i - mid) (by omega)
    rw [at_eq (show i = s + (mid + m - s - m) + (i - mid) by omega), this]
    exact at_eq (by omega)
  have D : ∀ i, mid + m - s ≤ i → d1[i]! = d[i]! := fun i hi => ho i (.inr hi)
  refine ⟨?_, ?_, ?_, ?_, ?_, ?_, ?_⟩
  · intro i j i1 i2 i3
    rw [A i (by omega), A j i3]
    exact hl i j i1 i2 (by omega)
  · intro i j i1 i2 i3
    rw [B i i1 (by omega), B j (by omega) i3]
    exact hr _ _ (by omega) (by omega) (by omega)
  · intro i j i1 i2 i3 i4
    rw [A i i2, B j i3 i4]
    exact hc _ _ i1 (by omega) (by omega) (by omega)
  · intro i j i1 i2 i3
    rw [C i i1 (by omega), C j (by omega) i3]
    exact hl _ _ (by omega) (by omega) (by omega)
  · intro i j i1 i2 i3
    rw [D i i1, D j (by omega)]
    exact hr _ _ (by omega) i2 i3
  · intro i j i1 i2 i3 i4
    rw [C i i1 i2, D j i3]
    exact hc _ _ (by omega) (by omega) (by omega) i4
  · intro i j i1 i2 i3 i4
    by_cases ei : i < s
    · rw [A i ei]
      by_cases ej : j < mid + m - s
      · rw [C j i3 ej]
        exact hl.le i1 (by omega) (by omega)
      · rw [D j (by omega)]
        rcases he with ⟨e1, e2⟩ | ⟨e1, e2⟩
        · have k := lo (s - 1) (by omega) (by omega)
          exact ((hl.le i1 (by omega) (by omega)).trans k).trans (hr.le (by omega) (by omega) i4)
        · by_cases es : s0 = s
          · omega
          · have k := lo (s - 1) (by omega) (by omega)
            exact ((hl.le i1 (by omega) (by omega)).trans k).trans (hr.le (by omega) (by omega) i4)
    · rw [B i (by omega) i2]
      by_cases ej : j < mid + m - s
      · rw [C j i3 ej]
        by_cases es : s = r0
        · rcases he with ⟨e1, e2⟩ | ⟨e1, e2⟩ <;> omega
        · have k := hi s (Nat.le_refl _) (by omega)
          exact ((hr.le (by omega) (by omega) (by omega)).trans k).trans (hl.le (by omega) (by omega) (by omega))
      · rw [D j (by omega)]
        exact hr.le (by omega) (by omega) i4
theorem merged_none {key : Nat → Int} {a s b : Nat} {d : Array Nat} (h1 : SegS key a s d) (h2 : SegS key s b d) (h : ¬ (a < s ∧ s < b)) (ha : a ≤ s) (hb : s ≤ b) : Merged key a b d d := by
  refine ⟨permIn_refl _ _ _, ?_⟩
  by_cases e : a < s
  · obtain rfl : s = b := by omega
    exact h1
  · obtain rfl : a = s := by omega
    exact h2
theorem Halves.done {key : Nat → Int} {a s mid e b : Nat} {d d1 d2 d3 : Array Nat} (h : Halves key a s mid e b d1) (hb : b ≤ d.size) (h1 : a ≤ mid) (h2 : mid ≤ b) (hp : PermIn a b d d1)
    (m1 : Merged key a mid d1 d2) (m2 : Merged key mid b d2 d3) : Merged key a b d d3 := by
  obtain ⟨p1, s1⟩ := m1
  obtain ⟨p2, s2⟩ := m2
  have z1 : d1.size = d.size := hp.1
  have z2 : d2.size = d1.size := p1.1
  refine ⟨perm_trans hp (perm_trans (perm_mono p1 (Nat.le_refl _) h2 (by omega)) (perm_mono p2 h1 (Nat.le_refl _) (by omega))), fun i j i1 i2 i3 => ?_⟩
  by_cases ej : j < mid
  · rw [p2.2.1 i (.inl (by omega)), p2.2.1 j (.inl ej)]
    exact s1 i j i1 i2 ej
  · by_cases ei : mid ≤ i
    · exact s2 i j ei i2 i3
    · rw [p2.2.1 i (.inl (by omega))]
      refine perm_all (p := fun y => Ahead key d2[i]! y) p2 (by omega) (fun y y1 y2 => ?_) j (by omega) i3
      rw [p1.2.1 y (.inr y1)]
      exact perm_all (p := fun x => Ahead key x d1[y]!) p1 (by omega) (fun x x1 x2 => h.ap x y x1 x2 y1 y2) i i1 (by omega)
/-- The second part is as it was when the first one has been merged. -/
theorem Halves.right {key : Nat → Int} {a s mid e b : Nat} {d1 d2 : Array Nat} (h : Halves key a s mid e b d1) (m1 : Merged key a mid d1 d2) (he : mid ≤ e) (heb : e ≤ b) : SegS key mid e d2 ∧ SegS key e b d2 ∧ CrossS mid e b d2 := by
  obtain ⟨p1, s1⟩ := m1
  have o : ∀ i, mid ≤ i → d2[i]! = d1[i]! := fun i hi => p1.2.1 i (.inr hi)
  refine ⟨h.r1.congr fun i i1 i2 => o i i1, h.r2.congr fun i i1 i2 => o i (by omega), fun i j i1 i2 i3 i4 => ?_⟩
  rw [o i i1, o j (by omega)]
  exact h.rc i j i1 i2 i3 i4

/-! ### the rounds -/
/-- Sorted, and out of places of its own. -/
def Good (key : Nat → Int) (a b : Nat) (d : Array Nat) : Prop := SegS key a b d ∧ ∀ i, a ≤ i → i < b → a ≤ d[i]! ∧ d[i]! < b
theorem Good.congr {key : Nat → Int} {a b : Nat} {d d' : Array Nat} (h : Good key a b d) (e : ∀ i, a ≤ i → i < b → d'[i]! = d[i]!) : Good key a b d' :=
  ⟨h.1.congr e, fun i i1 i2 => by rw [e i i1 i2]; exact h.2 i i1 i2⟩
theorem Good.cross {key : Nat → Int} {a m b : Nat} {d : Array Nat} (h : Good key a m d) (h2 : Good key m b d) : CrossS a m b d := fun i j i1 i2 i3 i4 => by
  have x := h.2 i i1 i2
  have y := h2.2 j i3 i4
  omega
theorem Good.merged {key : Nat → Int} {a m b : Nat} {d d' : Array Nat} (h : Good key a m d) (h2 : Good key m b d) (hm : Merged key a b d d') (h1 : a ≤ m) (h3 : m ≤ b) (hb : b ≤ d.size) : Good key a b d' :=
  ⟨hm.2, perm_all (p := fun x => a ≤ x ∧ x < b) hm.1 hb fun i i1 i2 => by
    show a ≤ d[i]! ∧ d[i]! < b
    by_cases e : i < m
    · have := h.2 i i1 e; omega
    · have := h2.2 i (by omega) i2; omega⟩
theorem Good.empty {key : Nat → Int} {a b : Nat} {d : Array Nat} (h : b ≤ a) : Good key a b d := ⟨fun i j i1 i2 i3 => by omega, fun i i1 i2 => by omega⟩

/-- The insertion sort of a part that still lies as it was laid. -/
def Fresh (a n : Nat) (d : Array Nat) : Prop := ∀ i, a ≤ i → i < n → d[i]! = i
def aheadB (key : Nat → Int) (x y : Nat) : Bool := decide (key y < key x ∨ (key x = key y ∧ x < y))
theorem aheadB_swo (key : Nat → Int) : SWO (aheadB key) := by
  refine ⟨fun x => ?_, fun x y z => ?_, fun x y z => ?_⟩ <;> simp only [aheadB, decide_eq_true_eq, decide_eq_false_iff_not] <;> omega
theorem insInner_eq {key : Nat → Int} {lt : Nat → Nat → Bool} (hlt : ∀ x y, y < x → lt x y = aheadB key x y) (a : Nat) : ∀ (j : Nat) (d : Array Nat), j < d.size → (∀ k, a ≤ k → k < j → d[k]! < d[j]!) → insInner lt a j d = insInner (aheadB key) a j d
  | 0, d, _, _ => rfl
  | j + 1, d, hj, h => by
    unfold insInner
    by_cases e : j + 1 > a
    · rw [hlt _ _ (h j (by omega) (by omega))]
      split
      · exact insInner_eq hlt a j _ (by rw [swp_size]; omega) fun k k1 k2 => by
          rw [swp_other _ _ _ _ (by omega) (by omega), swp_right _ _ _ (by omega)]
          exact h k k1 (by omega)
      · rfl
    · rw [decide_eq_false e]
      rfl
theorem insInner_perm {lt : Nat → Nat → Bool} (a b : Nat) : ∀ (j : Nat) (d : Array Nat), j < b → b ≤ d.size → PermIn a b d (insInner lt a j d)
  | 0, d, _, _ => permIn_refl _ _ _
  | j + 1, d, h1, h2 => by
    unfold insInner
    split
    · rename_i hc
      simp only [Bool.and_eq_true, decide_eq_true_eq] at hc
      exact perm_trans (swp_permIn d a b (j + 1) j (by omega) h1 (by omega) (by omega) h2) (insInner_perm a b j _ (by omega) (by rw [swp_size]; exact h2))
    · exact permIn_refl _ _ _
theorem insOuter_eq {key : Nat → Int} {lt : Nat → Nat → Bool} (hlt : ∀ x y, y < x → lt x y = aheadB key x y) (a b : Nat) : ∀ (n i : Nat) (d : Array Nat), b - i = n → b ≤ d.size → (∀ k l, a ≤ k → k < l → i ≤ l → l < b → d[k]! < d[l]!) → insOuter lt a b i d = insOuter (aheadB key) a b i d
  | 0, i, d, hn, _, _ => by rw [insOuter, if_neg (by omega), insOuter, if_neg (by omega)]
  | n + 1, i, d, hn, hb, h => by
    have hi : i < b := by omega
    have e1 : insOuter lt a b i d = insOuter lt a b (i + 1) (insInner (aheadB key) a i d) := by rw [insOuter, if_pos hi, insInner_eq hlt a i d (by omega) fun k k1 k2 => h k i k1 k2 (Nat.le_refl _) hi]
    have e2 : insOuter (aheadB key) a b i d = insOuter (aheadB key) a b (i + 1) (insInner (aheadB key) a i d) := by rw [insOuter, if_pos hi]
    rw [e1, e2]
    have hp : PermIn a (i + 1) d (insInner (aheadB key) a i d) := insInner_perm a (i + 1) i d (by omega) (by omega)
    refine insOuter_eq hlt a b n (i + 1) _ (by omega) (by rw [hp.1]; exact hb) fun k l k1 k2 k3 k4 => ?_
    rw [hp.2.1 l (.inr k3)]
    by_cases e : k < i + 1
    · exact perm_all (p := fun x => x < d[l]!) hp (by omega) (fun x x1 x2 => h x l x1 (by omega) (by omega) k4) k k1 e
    · rw [hp.2.1 k (.inr (by omega))]
      exact h k l k1 k2 (by omega) k4
theorem good_ins {key : Nat → Int} {a b n : Nat} {d : Array Nat} (hf : Fresh a n d) (hbn : b ≤ n) (hab : a ≤ b) (hb : b ≤ d.size) :
    PermIn a b d (insertionSort (fun x y => decide (cmpKey key x y < 0)) d a b) ∧ Good key a b (insertionSort (fun x y => decide (cmpKey key x y < 0)) d a b) := by
  have e : insertionSort (fun x y => decide (cmpKey key x y < 0)) d a b = insertionSort (aheadB key) d a b := by
    unfold insertionSort
    refine insOuter_eq (fun x y hxy => ?_) a b (b - (a + 1)) (a + 1) d rfl hb fun k l k1 k2 k3 k4 => ?_
    · simp only [aheadB, cmpKey_lt]
      congr 1
      exact propext ⟨fun h => .inl h, fun h => by omega⟩
    · rw [hf k k1 (by omega), hf l (by omega) (by omega)]
      exact k2
  rw [e]
  obtain ⟨h1, h2⟩ := insertionSort_holds (aheadB_swo key) d a b hab hb
  refine ⟨h1, fun i j i1 i2 i3 => ?_, perm_all (p := fun x => a ≤ x ∧ x < b) h1 hb fun i i1 i2 => by
    show a ≤ d[i]! ∧ d[i]! < b
    rw [hf i i1 (by omega)]
    exact ⟨i1, i2⟩⟩
  have := h2 i j i1 i2 i3
  simp only [aheadB, decide_eq_false_iff_not] at this
  unfold Ahead
  omega

/-- Every block of bs places that begins between lo and hi is good. -/
def Blk (key : Nat → Int) (n bs : Nat) (d : Array Nat) (lo hi : Nat) : Prop := ∀ k, lo ≤ k * bs → k * bs < hi → Good key (k * bs) (min (k * bs + bs) n) d
theorem blk_next {bs q k : Nat} (h : k * bs < q * bs + bs) : k ≤ q := by
  have : k * bs < (q + 1) * bs := by rw [Nat.succ_mul]; exact h
  have := Nat.lt_of_mul_lt_mul_right this
  omega
theorem blk_apart {bs q k : Nat} (h : k ≤ q) (hne : k ≠ q) : k * bs + bs ≤ q * bs := by
  have : (k + 1) * bs ≤ q * bs := Nat.mul_le_mul_right bs (by omega)
  rw [Nat.succ_mul] at this
  exact this
theorem Blk.none {key : Nat → Int} {n bs lo : Nat} {d : Array Nat} : Blk key n bs d lo lo := fun k h1 h2 => by omega
/-- One more block. -/
theorem Blk.snoc {key : Nat → Int} {n bs q : Nat} {d d' : Array Nat} (h : Blk key n bs d 0 (q * bs)) (hq : q * bs ≤ n) (hp : PermIn (q * bs) (min (q * bs + bs) n) d d') (hg : Good key (q * bs) (min (q * bs + bs) n) d') : Blk key n bs d' 0 (q * bs + bs) := fun k h1 h2 => by
  have hk := blk_next h2
  by_cases e : k = q
  · subst e; exact hg
  · have ha := blk_apart (bs := bs) hk e
    exact (h k h1 (by
      by_cases z : bs = 0
      · subst z; simp at h2
      · omega)).congr fun i i1 i2 => hp.2.1 i (.inl (by omega))
theorem Blk.upto {key : Nat → Int} {n bs a hi : Nat} {d : Array Nat} (h : Blk key n bs d 0 a) (hh : hi ≤ a) : Blk key n bs d 0 hi := fun k h1 h2 => h k h1 (by omega)
theorem Blk.rest {key : Nat → Int} {n bs a a' : Nat} {d d' : Array Nat} (h : Blk key n bs d a n) (ha : a ≤ a') (e : ∀ i, a' ≤ i → d'[i]! = d[i]!) : Blk key n bs d' a' n := fun k h1 h2 => (h k (by omega) h2).congr fun i i1 i2 => e i (by omega)
theorem Fresh.rest {a a' n : Nat} {d d' : Array Nat} (h : Fresh a n d) (ha : a ≤ a') (e : ∀ i, a' ≤ i → d'[i]! = d[i]!) : Fresh a' n d' := fun i i1 i2 => by rw [e i i1]; exact h i (by omega) i2
/-- The two small blocks from a on. -/
theorem Blk.two {key : Nat → Int} {n bs q a : Nat} {d : Array Nat} (h : Blk key n bs d a n) (ha : a = q * (2 * bs)) : (a < n → Good key a (min (a + bs) n) d) ∧ (a + bs < n → Good key (a + bs) (min (a + bs + bs) n) d) := by
  have e : a = (2 * q) * bs := by rw [ha, Nat.mul_left_comm, Nat.mul_assoc]
  have e2 : a + bs = (2 * q + 1) * bs := by rw [Nat.succ_mul, ← e]
  refine ⟨fun hn => ?_, fun hn => ?_⟩
  · have := h (2 * q) (by omega) (by omega)
    rw [← e] at this
    exact this
  · have := h (2 * q + 1) (by omega) (by omega)
    rw [← e2] at this
    exact this
end Go.Proofs.Ytccnfklemalmeaa
