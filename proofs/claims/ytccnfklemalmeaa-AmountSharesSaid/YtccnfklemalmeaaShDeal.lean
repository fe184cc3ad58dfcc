/- What is dealt out, in plain Lean: the parts are the whole together, each is the quota's whole part or one more, who weighs more gets no less, and a common factor changes nothing. -/
import Derived.Test.YtccnfklemalmeaaShPlain
set_option linter.unusedVariables false
set_option linter.unusedSimpArgs false
set_option maxRecDepth 100000
namespace Go.Proofs.Ytccnfklemalmeaa
open Go.Sort

def lowS (n : Int) (xs : List Int) (j : Nat) : Int := n * xs.getD j 0 / theSum xs
def restS (n : Int) (xs : List Int) (j : Nat) : Int := n * xs.getD j 0 % theSum xs
/-- The comparison's key: at a place beyond the end it is the last one's (the sort never asks it there). -/
def keyS (n : Int) (xs : List Int) (x : Nat) : Int := restS n xs (min x (xs.length - 1))
/-- How many of the first t places of the order are j. -/
def bump (d : Array Nat) : Nat → Nat → Int
  | 0, _ => 0
  | t + 1, j => bump d t j + if d[t]! = j then 1 else 0

/-- The facts on n and the weights. -/
structure FitF (n : Int) (xs : List Int) : Prop where
  n0 : 0 ≤ n
  w0 : ∀ j, 0 ≤ xs.getD j 0
  t0 : 0 < theSum xs
  t1 : theSum xs ≤ 9223372036854775807
  l0 : 0 < xs.length
theorem any_neg {xs : List Int} (h : xs.any (fun x => decide (x < 0)) = false) (j : Nat) : 0 ≤ xs.getD j 0 := by
  by_cases hj : j < xs.length
  · rw [List.any_eq_false] at h
    have := h (xs.getD j 0) (by simp [List.getD_eq_getElem?_getD, hj])
    simpa using this
  · rw [List.getD_eq_getElem?_getD, List.getElem?_eq_none (by omega)]
    simp
theorem FitS.facts {n : Int} {xs : List Int} (h : FitS n xs) : FitF n xs := by
  obtain ⟨h1, h2, h3, h4⟩ := h
  have hw := any_neg h2
  rw [List.any_eq_true] at h3
  obtain ⟨x, hx, hp⟩ := h3
  obtain ⟨k, hk, e⟩ := List.getElem_of_mem hx
  have hp' : 0 < x := by simpa using hp
  have ek : xs.getD k 0 = x := by simp [List.getD_eq_getElem?_getD, hk, e]
  have hs := sumTo_elem (f := fun j => xs.getD j 0) hk fun j _ => hw j
  rw [← sumTo_all rfl] at hs
  exact ⟨h1, hw, by rw [← ek] at hp'; omega, h4, by omega⟩

theorem FitF.w1 {n : Int} {xs : List Int} (h : FitF n xs) (j : Nat) : xs.getD j 0 ≤ theSum xs := by
  by_cases hj : j < xs.length
  · have hs := sumTo_elem (f := fun j => xs.getD j 0) hj fun j _ => h.w0 j
    rw [← sumTo_all rfl] at hs
    exact hs
  · rw [List.getD_eq_getElem?_getD, List.getElem?_eq_none (by omega)]
    have := h.t0
    simp
    omega
theorem FitF.split {n : Int} {xs : List Int} (h : FitF n xs) (j : Nat) : theSum xs * lowS n xs j + restS n xs j = n * xs.getD j 0 := Int.mul_ediv_add_emod _ _
theorem FitF.rest {n : Int} {xs : List Int} (h : FitF n xs) (j : Nat) : 0 ≤ restS n xs j ∧ restS n xs j < theSum xs :=
  ⟨Int.emod_nonneg _ (by have := h.t0; omega), Int.emod_lt_of_pos _ h.t0⟩
theorem FitF.low0 {n : Int} {xs : List Int} (h : FitF n xs) (j : Nat) : 0 ≤ lowS n xs j := Int.ediv_nonneg (Int.mul_nonneg h.n0 (h.w0 j)) (by have := h.t0; omega)
theorem FitF.low1 {n : Int} {xs : List Int} (h : FitF n xs) (j : Nat) : lowS n xs j ≤ n := by
  have a : n * xs.getD j 0 ≤ n * theSum xs := Int.mul_le_mul_of_nonneg_left (h.w1 j) h.n0
  exact Int.le_of_lt_add_one (Int.ediv_lt_of_lt_mul h.t0 (by rw [Int.add_mul, Int.one_mul]; have := h.t0; omega))
theorem FitF.whole {n : Int} {xs : List Int} (h : FitF n xs) : theSum xs * sumTo (lowS n xs) xs.length + sumTo (restS n xs) xs.length = theSum xs * n := by
  have e : sumTo (fun j => theSum xs * lowS n xs j + restS n xs j) xs.length = sumTo (fun j => n * xs.getD j 0) xs.length := sumTo_congr _ fun j _ => h.split j
  rw [sumTo_add (fun j => theSum xs * lowS n xs j) (restS n xs), sumTo_mul, sumTo_mul n (fun j => xs.getD j 0), ← sumTo_all rfl] at e
  rw [e, Int.mul_comm]
theorem FitF.left {n : Int} {xs : List Int} (h : FitF n xs) : theSum xs * (n - sumTo (lowS n xs) xs.length) = sumTo (restS n xs) xs.length := by
  have := h.whole
  rw [Int.mul_sub]
  omega
theorem FitF.left0 {n : Int} {xs : List Int} (h : FitF n xs) : 0 ≤ n - sumTo (lowS n xs) xs.length := by
  have a := h.left
  have b : 0 ≤ sumTo (restS n xs) xs.length := sumTo_nonneg _ fun j _ => (h.rest j).1
  by_cases c : 0 ≤ n - sumTo (lowS n xs) xs.length
  · exact c
  · have : theSum xs * (n - sumTo (lowS n xs) xs.length) < 0 := Int.mul_neg_of_pos_of_neg h.t0 (by omega)
    omega
theorem FitF.left1 {n : Int} {xs : List Int} (h : FitF n xs) : n - sumTo (lowS n xs) xs.length ≤ xs.length := by
  have a := h.left
  have b : sumTo (restS n xs) xs.length ≤ theSum xs * (xs.length : Int) := sumTo_few (by have := h.t0; omega) (fun x => by have := (h.rest x).2; omega) _ fun x x1 x2 => by omega
  rw [← a] at b
  exact Int.le_of_mul_le_mul_left b h.t0
theorem FitF.part {n : Int} {xs : List Int} (h : FitF n xs) {k : Nat} (hk : k ≤ xs.length) : sumTo (lowS n xs) k ≤ n ∧ 0 ≤ sumTo (lowS n xs) k := by
  have a := sumTo_part (f := lowS n xs) hk fun j _ => h.low0 j
  have b := h.left0
  exact ⟨by omega, sumTo_nonneg _ fun j _ => h.low0 j⟩

/-! ### the order -/
structure OrderS (n : Int) (xs : List Int) (d : Array Nat) : Prop where
  pm : PermIn 0 xs.length (Places xs.length) d
  so : SegS (keyS n xs) 0 xs.length d
theorem keyS_at {n : Int} {xs : List Int} {x : Nat} (h : x < xs.length) : keyS n xs x = restS n xs x := by
  unfold keyS
  rw [show min x (xs.length - 1) = x by omega]
theorem bump_sum {l : Nat} {d : Array Nat} (h : PermIn 0 l (Places l) d) (f : Nat → Int) : ∀ t, t ≤ l → sumTo (fun j => f j + bump d t j) l = sumTo f l + t
  | 0, _ => by
    rw [sumTo_congr (g := f) l fun j _ => by simp [bump]]
    simp
  | t + 1, ht => by
    have hlt := order_lt h (i := t) (by omega)
    rw [sumTo_one (f := fun j => f j + bump d t j) (g := fun j => f j + bump d (t + 1) j) (i := d[t]!) (by simp only [bump, if_true]; omega) (fun j hj => by simp only [bump]; rw [if_neg (Ne.symm hj)]; omega) l hlt, bump_sum h f t (by omega)]
    omega
theorem bump_cases {l : Nat} {d : Array Nat} (h : PermIn 0 l (Places l) d) {j : Nat} : ∀ t, t ≤ l → (bump d t j = 0 ∧ ∀ x, x < t → d[x]! ≠ j) ∨ (bump d t j = 1 ∧ ∃ x, x < t ∧ d[x]! = j)
  | 0, _ => .inl ⟨rfl, fun x hx => by omega⟩
  | t + 1, ht => by
    rcases bump_cases h (j := j) t (by omega) with ⟨a, b⟩ | ⟨a, x, hx, e⟩
    · by_cases c : d[t]! = j
      · exact .inr ⟨by simp only [bump]; rw [a, if_pos c]; rfl, t, by omega, c⟩
      · refine .inl ⟨by simp only [bump]; rw [a, if_neg c]; rfl, fun x hx => ?_⟩
        by_cases e : x = t
        · subst e; exact c
        · exact b x (by omega)
    · have c : d[t]! ≠ j := fun c => by
        have := order_inj h (i := t) (j := x) (by omega) (by omega) (c.trans e.symm)
        omega
      exact .inr ⟨by simp only [bump]; rw [a, if_neg c]; rfl, x, by omega, e⟩
theorem bump_range {l : Nat} {d : Array Nat} (h : PermIn 0 l (Places l) d) {t : Nat} (ht : t ≤ l) (j : Nat) : bump d t j = 0 ∨ bump d t j = 1 := by
  rcases bump_cases h (j := j) t ht with ⟨a, _⟩ | ⟨a, _⟩
  · exact .inl a
  · exact .inr a
/-- Who stands ahead of one that is chosen is chosen. -/
theorem bump_mono {key : Nat → Int} {l : Nat} {d : Array Nat} (h : PermIn 0 l (Places l) d) (s : SegS key 0 l d) {t : Nat} (ht : t ≤ l) {k i : Nat} (hk : k < l) (ha : Ahead key k i) : bump d t i ≤ bump d t k := by
  rcases bump_cases h (j := i) t ht with ⟨a, _⟩ | ⟨a, x, hx, e⟩
  · rcases bump_range h ht k with b | b <;> omega
  · rcases bump_cases h (j := k) t ht with ⟨b, c⟩ | ⟨b, _⟩
    · obtain ⟨y, hy, ey⟩ := order_surj h hk
      have hty : t ≤ y := by
        by_cases z : y < t
        · exact absurd ey (c y z)
        · omega
      have := s x y (Nat.zero_le _) (by omega) hy
      rw [e, ey] at this
      have := ha.antisymm this
      subst this
      exact absurd e (c x hx)
    · omega

/-- What is dealt out. -/
structure Dealt (n : Int) (xs ps : List Int) : Prop where
  len : ps.length = xs.length
  how : ∃ (d : Array Nat) (L : Nat), OrderS n xs d ∧ (L : Int) = n - sumTo (lowS n xs) xs.length ∧ ∀ j, j < xs.length → ps.getD j 0 = lowS n xs j + bump d L j
theorem Dealt.sum {n : Int} {xs ps : List Int} (h : Dealt n xs ps) (f : FitF n xs) : theSum ps = n := by
  obtain ⟨hl, d, L, o, hL, hp⟩ := h
  have hL1 := f.left1
  rw [sumTo_all hl, sumTo_congr _ hp, bump_sum o.pm _ L (by omega)]
  omega
theorem Dealt.one {n : Int} {xs ps : List Int} (h : Dealt n xs ps) (f : FitF n xs) {j : Nat} (hj : j < xs.length) : ps.getD j 0 = lowS n xs j ∨ ps.getD j 0 = lowS n xs j + 1 := by
  obtain ⟨hl, d, L, o, hL, hp⟩ := h
  have hL1 := f.left1
  rw [hp j hj]
  rcases bump_range o.pm (t := L) (by omega) j with b | b <;> omega
theorem Dealt.bounds {n : Int} {xs ps : List Int} (h : Dealt n xs ps) (f : FitF n xs) {j : Nat} (hj : j < xs.length) : 0 ≤ ps.getD j 0 ∧ ps.getD j 0 ≤ n := by
  have h0 : ∀ j, j < ps.length → 0 ≤ ps.getD j 0 := fun j hj => by
    have a := h.one f (j := j) (by rw [← h.len]; exact hj)
    have b := f.low0 j
    omega
  have hs := h.sum f
  rw [sumTo_all rfl] at hs
  have := sumTo_elem (f := fun j => ps.getD j 0) (k := j) (by rw [h.len]; exact hj) h0
  exact ⟨h0 j (by rw [h.len]; exact hj), by omega⟩
theorem Dealt.zero {n : Int} {xs ps : List Int} (h : Dealt n xs ps) (f : FitF n xs) {j : Nat} (hj : j < xs.length) (hw : xs.getD j 0 = 0) : ps.getD j 0 = 0 := by
  obtain ⟨hl, d, L, o, hL, hp⟩ := h
  have hL1 := f.left1
  have hlow : lowS n xs j = 0 := by unfold lowS; rw [hw]; simp
  have hrest : restS n xs j = 0 := by unfold restS; rw [hw]; simp
  rw [hp j hj, hlow]
  rcases bump_cases o.pm (j := j) L (by omega) with ⟨b, _⟩ | ⟨b, x, hx, e⟩
  · omega
  · exfalso
    have hall : ∀ y, x ≤ y → y < xs.length → restS n xs d[y]! ≤ 0 := fun y h1 h2 => by
      by_cases z : y = x
      · subst z; rw [e, hrest]; exact Int.le_refl _
      · have a := o.so x y (Nat.zero_le _) (by omega) h2
        unfold Ahead at a
        rw [keyS_at (order_lt o.pm h2), keyS_at (order_lt o.pm (by omega)), e, hrest] at a
        omega
    have a := sumTo_few (f := fun x => restS n xs d[x]!) (T := theSum xs) (p := x) (by have := f.t0; omega) (fun y => by have := (f.rest d[y]!).2; omega) xs.length hall
    rw [order_sum o.pm (restS n xs), ← f.left, ← hL] at a
    have := Int.le_of_mul_le_mul_left a f.t0
    omega
theorem low_mono {n : Int} {xs : List Int} (f : FitF n xs) {k i : Nat} (h : xs.getD i 0 ≤ xs.getD k 0) : lowS n xs i ≤ lowS n xs k :=
  Int.ediv_le_ediv f.t0 (Int.mul_le_mul_of_nonneg_left h f.n0)
theorem Dealt.more {n : Int} {xs ps : List Int} (h : Dealt n xs ps) (f : FitF n xs) {k i : Nat} (hk : k < i) (hi : i < xs.length) (hw : xs.getD i 0 ≤ xs.getD k 0) : ps.getD i 0 ≤ ps.getD k 0 := by
  obtain ⟨hl, d, L, o, hL, hp⟩ := h
  have hL1 := f.left1
  have a := low_mono f hw
  rw [hp i hi, hp k (by omega)]
  have r1 := bump_range o.pm (t := L) (by omega) i
  have r2 := bump_range o.pm (t := L) (by omega) k
  by_cases e : lowS n xs i = lowS n xs k
  · have s1 := f.split i
    have s2 := f.split k
    have m : n * xs.getD i 0 ≤ n * xs.getD k 0 := Int.mul_le_mul_of_nonneg_left hw f.n0
    rw [e] at s1
    have hr : restS n xs i ≤ restS n xs k := by omega
    have ha : Ahead (keyS n xs) k i := by
      unfold Ahead
      rw [keyS_at hi, keyS_at (show k < xs.length by omega)]
      omega
    have := bump_mono o.pm o.so (t := L) (by omega) (show k < xs.length by omega) ha
    omega
  · omega
theorem Dealt.less {n : Int} {xs ps : List Int} (h : Dealt n xs ps) (f : FitF n xs) {k i : Nat} (hk : k < i) (hi : i < xs.length) (hw : xs.getD k 0 < xs.getD i 0) : ps.getD k 0 ≤ ps.getD i 0 := by
  obtain ⟨hl, d, L, o, hL, hp⟩ := h
  have hL1 := f.left1
  have a := low_mono f (show xs.getD k 0 ≤ xs.getD i 0 by omega)
  rw [hp i hi, hp k (by omega)]
  have r1 := bump_range o.pm (t := L) (by omega) i
  have r2 := bump_range o.pm (t := L) (by omega) k
  by_cases e : lowS n xs i = lowS n xs k
  · by_cases n0 : n = 0
    · have hz : ∀ j, lowS n xs j = 0 := fun j => by unfold lowS; rw [n0]; simp
      have hz2 : sumTo (lowS n xs) xs.length = 0 := by
        rw [sumTo_congr (g := fun _ => 0) _ fun j _ => hz j]
        have := sumTo_mul 0 (fun _ => 0) xs.length
        simpa using this
      have : L = 0 := by omega
      subst this
      simp only [bump]
      omega
    · have s1 := f.split i
      have s2 := f.split k
      have n1 := f.n0
      have m : n * xs.getD k 0 < n * xs.getD i 0 := Int.mul_lt_mul_of_pos_left hw (by omega)
      rw [e] at s1
      have hr : restS n xs k < restS n xs i := by omega
      have ha : Ahead (keyS n xs) i k := by
        unfold Ahead
        rw [keyS_at hi, keyS_at (show k < xs.length by omega)]
        omega
      have := bump_mono o.pm o.so (t := L) (by omega) hi ha
      omega
  · omega

/-! ### a common factor -/
theorem scale_at {xs : List Int} {c : Int} (j : Nat) : (xs.map (fun x => x * c)).getD j 0 = c * xs.getD j 0 := by
  rw [List.getD_eq_getElem?_getD, List.getD_eq_getElem?_getD, List.getElem?_map]
  cases xs[j]? with
  | none => simp
  | some v => simp [Int.mul_comm]
theorem scale_sum (c : Int) : ∀ (xs : List Int), theSum (xs.map (fun x => x * c)) = c * theSum xs
  | [] => by simp [theSum]
  | x :: r => by simp only [List.map_cons, theSum]; rw [scale_sum c r, Int.mul_add, Int.mul_comm]
theorem scale_low {n c : Int} {xs : List Int} (hc : 0 < c) (j : Nat) : lowS n (xs.map (fun x => x * c)) j = lowS n xs j := by
  unfold lowS
  rw [scale_at, scale_sum, Int.mul_left_comm]
  exact Int.mul_ediv_mul_of_pos _ _ hc
theorem scale_rest {n c : Int} {xs : List Int} (hc : 0 < c) (j : Nat) : restS n (xs.map (fun x => x * c)) j = c * restS n xs j := by
  unfold restS
  rw [scale_at, scale_sum, Int.mul_left_comm]
  exact Int.mul_emod_mul_of_pos _ _ hc
theorem Dealt.scale {n c : Int} {xs ps ps2 : List Int} (h : Dealt n xs ps) (hc : 0 < c) (h2 : Dealt n (xs.map (fun x => x * c)) ps2) : ps2 = ps := by
  obtain ⟨hl, d, L, o, hL, hp⟩ := h
  obtain ⟨hl2, d2, L2, o2, hL2, hp2⟩ := h2
  have el : (xs.map (fun x => x * c)).length = xs.length := List.length_map _
  obtain ⟨pm2, so2⟩ := o2
  rw [el] at hl2 hL2 hp2 pm2 so2
  have ek : keyS n (xs.map (fun x => x * c)) = fun x => c * keyS n xs x := by
    funext x
    unfold keyS
    rw [el, scale_rest hc]
  rw [ek] at so2
  have ed := order_one o.pm pm2 o.so (seg_scale hc so2)
  subst ed
  have eL : L2 = L := by
    rw [sumTo_congr (g := lowS n xs) _ fun j _ => scale_low hc j] at hL2
    omega
  subst eL
  apply List.ext_getElem (hl2.trans hl.symm)
  intro j j1 j2
  have a := hp j (by omega)
  have b := hp2 j (by omega)
  rw [scale_low hc, ← a] at b
  simpa [List.getD_eq_getElem?_getD, j1, j2] using b
theorem scale_fit {n c : Int} {xs : List Int} (h : FitF n xs) (hc : 0 < c) (hm : c * theSum xs ≤ 9223372036854775807) : FitF n (xs.map (fun x => x * c)) :=
  ⟨h.n0, fun j => by rw [scale_at]; exact Int.mul_nonneg (by omega) (h.w0 j), by rw [scale_sum]; exact Int.mul_pos hc h.t0, by rw [scale_sum]; exact hm, by rw [List.length_map]; exact h.l0⟩
end Go.Proofs.Ytccnfklemalmeaa
