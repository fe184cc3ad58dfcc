/- The reference's Sum, as it was printed, answers the sum of a list and its error: plain integers. -/
import Derived.Test.YtccnfklemalmeaaDoorPAmountSumx1
set_option linter.unusedVariables false
set_option linter.unusedSimpArgs false
namespace Go.Proofs.YtccnfklemalmeaaDoor
open Go.RowKit Go.Proofs.YtccnfklemalmeaaDoor.PAmountSum Go.Proofs.YtccnfklemalmeaaDoorW.PrintWords

/-- What is above 0 together; what is below 0 together. -/
def upSum : List Int → Int
  | [] => 0
  | x :: r => (if 0 ≤ x then x else 0) + upSum r
def downSum : List Int → Int
  | [] => 0
  | x :: r => (if 0 ≤ x then 0 else -x) + downSum r
def theSum : List Int → Int
  | [] => 0
  | x :: r => x + theSum r
theorem theSum_split (l : List Int) : theSum l = upSum l - downSum l := by
  induction l with
  | nil => rfl
  | cons x r ih => simp only [theSum, upSum, downSum, ih]; split <;> omega
theorem upSum_append (a b : List Int) : upSum (a ++ b) = upSum a + upSum b := by
  induction a with
  | nil => simp [upSum]
  | cons x r ih => simp only [List.cons_append, upSum, ih]; omega
theorem downSum_append (a b : List Int) : downSum (a ++ b) = downSum a + downSum b := by
  induction a with
  | nil => simp [downSum]
  | cons x r ih => simp only [List.cons_append, downSum, ih]; omega
theorem theSum_append (a b : List Int) : theSum (a ++ b) = theSum a + theSum b := by
  induction a with
  | nil => simp [theSum]
  | cons x r ih => simp only [List.cons_append, theSum, ih]; omega
theorem upSum_nonneg (l : List Int) : 0 ≤ upSum l := by
  induction l with
  | nil => simp [upSum]
  | cons x r ih => simp only [upSum]; split <;> omega
theorem downSum_nonneg (l : List Int) : 0 ≤ downSum l := by
  induction l with
  | nil => simp [downSum]
  | cons x r ih => simp only [downSum]; split <;> omega
def In64 (l : List Int) : Prop := ∀ x ∈ l, -9223372036854775808 ≤ x ∧ x ≤ 9223372036854775807
theorem upSum_le (l : List Int) (h : In64 l) : upSum l ≤ 9223372036854775808 * l.length := by
  induction l with
  | nil => simp [upSum]
  | cons x r ih =>
    have := h x (by simp)
    have := ih fun y hy => h y (by simp [hy])
    simp only [upSum, List.length_cons]
    split <;> omega
theorem downSum_le (l : List Int) (h : In64 l) : downSum l ≤ 9223372036854775808 * l.length := by
  induction l with
  | nil => simp [downSum]
  | cons x r ih =>
    have := h x (by simp)
    have := ih fun y hy => h y (by simp [hy])
    simp only [downSum, List.length_cons]
    split <;> omega
theorem take_next (l : List Int) (i : Nat) (h : i < l.length) : l.take (i + 1) = l.take i ++ [l.getD i 0] := by
  rw [List.take_succ_eq_append_getElem h]
  simp [List.getD_eq_getElem?_getD, h]
def sumE (l : List Int) : Int := if -9223372036854775808 ≤ theSum l ∧ theSum l ≤ 9223372036854775807 then 0 else 9
def sumV (l : List Int) : Int := if -9223372036854775808 ≤ theSum l ∧ theSum l ≤ 9223372036854775807 then theSum l else 0

theorem plus_f (h1 l1 x : Int) (a : 0 ≤ h1) (b : h1 < 18446744073709551615) (c : 0 ≤ l1) (d : l1 < 18446744073709551616) (e : 0 ≤ x) (f : x < 18446744073709551616) :
    ∃ h2 l2, custodyref01_Plus.f h1 l1 0 x = some (h2, l2) ∧ 0 ≤ l2 ∧ l2 < 18446744073709551616 ∧ h2 * 18446744073709551616 + l2 = h1 * 18446744073709551616 + l1 + x ∧ 0 ≤ h2 ∧ h2 ≤ h1 + 1 := by
  unfold custodyref01_Plus.f
  simp only [IntKind.wrap_u64]
  split
  · exact ⟨_, _, rfl, by omega, by omega, by omega, by omega, by omega⟩
  · exact ⟨_, _, rfl, by omega, by omega, by omega, by omega, by omega⟩
theorem less_f (a b c d : Int) (hb : 0 ≤ b ∧ b < 18446744073709551616) (hd : 0 ≤ d ∧ d < 18446744073709551616) :
    custodyref01_Less.f a b c d = some (decide (a * 18446744073709551616 + b < c * 18446744073709551616 + d)) := by
  unfold custodyref01_Less.f
  split
  · rw [decide_eq_true (by omega)]
  · split
    · subst_vars
      congr 1
      by_cases h : b < d
      · rw [decide_eq_true h, decide_eq_true (by omega)]
      · rw [decide_eq_false h, decide_eq_false (by omega)]
    · rw [decide_eq_false (by omega)]
theorem minus_f (a b c d : Int) (ha : 0 ≤ a ∧ a < 18446744073709551616) (hb : 0 ≤ b ∧ b < 18446744073709551616) (hc : 0 ≤ c ∧ c < 18446744073709551616) (hd : 0 ≤ d ∧ d < 18446744073709551616) (h : c * 18446744073709551616 + d ≤ a * 18446744073709551616 + b) :
    ∃ h2 l2, custodyref01_Minus.f a b c d = some (h2, l2) ∧ 0 ≤ l2 ∧ l2 < 18446744073709551616 ∧ 0 ≤ h2 ∧ h2 * 18446744073709551616 + l2 = a * 18446744073709551616 + b - (c * 18446744073709551616 + d) := by
  unfold custodyref01_Minus.f
  simp only [IntKind.wrap_u64]
  split
  · exact ⟨_, _, rfl, by omega, by omega, by omega, by omega⟩
  · exact ⟨_, _, rfl, by omega, by omega, by omega, by omega⟩

theorem sum_bad {l : List Int} (h : theSum l < -9223372036854775808 ∨ 9223372036854775807 < theSum l) : (0, 9) = (sumV l, sumE l) := by
  unfold sumV sumE
  rw [if_neg (by omega), if_neg (by omega)]
theorem sum_good {l : List Int} (h : -9223372036854775808 ≤ theSum l) (g : theSum l ≤ 9223372036854775807) (x : Int) (e : x = theSum l) : (x, 0) = (sumV l, sumE l) := by
  unfold sumV sumE
  rw [if_pos ⟨h, g⟩, if_pos ⟨h, g⟩, e]
theorem refSum_end (l : List Int) (k : Nat) (i u1 u0 v1 v0 : Int) (hi : ¬ i < l.length) (hu0 : 0 ≤ u0) (hu0' : u0 < 18446744073709551616) (hv0 : 0 ≤ v0) (hv0' : v0 < 18446744073709551616)
    (hu1 : 0 ≤ u1) (hu1' : u1 < 18446744073709551616) (hv1 : 0 ≤ v1) (hv1' : v1 < 18446744073709551616)
    (hs : theSum l = u1 * 18446744073709551616 + u0 - (v1 * 18446744073709551616 + v0)) : custodyref01_Sum.l0 (k + 2) l i u1 u0 v1 v0 = some (sumV l, sumE l) := by
  simp only [custodyref01_Sum.l0]
  rw [if_neg hi, less_f _ _ _ _ ⟨hu0, hu0'⟩ ⟨hv0, hv0'⟩]
  simp only [Option.bind_some]
  by_cases hlt : u1 * 18446744073709551616 + u0 < v1 * 18446744073709551616 + v0
  · rw [if_pos (decide_eq_true hlt)]
    obtain ⟨h2, l2, e, e1, e2, e3, e4⟩ := minus_f v1 v0 u1 u0 ⟨hv1, hv1'⟩ ⟨hv0, hv0'⟩ ⟨hu1, hu1'⟩ ⟨hu0, hu0'⟩ (Int.le_of_lt hlt)
    rw [e]
    simp only [Option.bind_some]
    have hs' : theSum l = -(h2 * 18446744073709551616 + l2) := by rw [e4, hs]; omega
    clear e4 hs hlt e hu0 hu0' hv0 hv0' hu1 hu1' hv1 hv1' hi
    by_cases hp : h2 > 0
    · rw [if_pos hp]
      simp only [custodyref01_Sum.j1, if_true]
      exact congrArg some (sum_bad (by omega))
    · rw [if_neg hp]
      simp only [custodyref01_Sum.j1]
      by_cases hq : l2 > 9223372036854775808
      · rw [if_pos (decide_eq_true hq)]
        exact congrArg some (sum_bad (by omega))
      · rw [if_neg (by simpa using hq), IntKind.wrap_u64]
        exact congrArg some (sum_good (by omega) (by omega) _ (by unfold wrap64; omega))
  · rw [if_neg (by simpa using hlt)]
    obtain ⟨h2, l2, e, e1, e2, e3, e4⟩ := minus_f u1 u0 v1 v0 ⟨hu1, hu1'⟩ ⟨hu0, hu0'⟩ ⟨hv1, hv1'⟩ ⟨hv0, hv0'⟩ (Int.not_lt.1 hlt)
    rw [e]
    simp only [Option.bind_some]
    have hs' : theSum l = h2 * 18446744073709551616 + l2 := by rw [e4, hs]
    clear e4 hs hlt e hu0 hu0' hv0 hv0' hu1 hu1' hv1 hv1' hi
    by_cases hp : h2 > 0
    · rw [if_pos hp]
      exact congrArg some (sum_bad (by omega))
    · rw [if_neg hp]
      by_cases hq : l2 > 9223372036854775807
      · rw [if_pos hq]
        exact congrArg some (sum_bad (by omega))
      · rw [if_neg hq]
        exact congrArg some (sum_good (by omega) (by omega) _ (by unfold wrap64; omega))
theorem up_next {l : List Int} {i : Nat} (h : i < l.length) : upSum (l.take (i + 1)) = upSum (l.take i) + if 0 ≤ l.getD i 0 then l.getD i 0 else 0 := by
  rw [take_next l i h, upSum_append]
  simp only [upSum]
  omega
theorem down_next {l : List Int} {i : Nat} (h : i < l.length) : downSum (l.take (i + 1)) = downSum (l.take i) + if 0 ≤ l.getD i 0 then 0 else -(l.getD i 0) := by
  rw [take_next l i h, downSum_append]
  simp only [downSum]
  omega
theorem getD_in {l : List Int} (hin : In64 l) {i : Nat} (h : i < l.length) : -9223372036854775808 ≤ l.getD i 0 ∧ l.getD i 0 ≤ 9223372036854775807 := hin _ (by simp [List.getD_eq_getElem?_getD, h])
theorem idx_next {i n : Nat} (h : i < n) (hn : n * 8 ≤ 140737488351232) : wrap64 ((i : Int) + 1) = ((i + 1 : Nat) : Int) := by unfold wrap64; omega
theorem refSum_loop (l : List Int) (hl : l.length * 8 ≤ 140737488351232) (hin : In64 l) (d : Nat) : ∀ (k i : Nat) (u1 u0 v1 v0 : Int), i ≤ l.length → l.length - i = d → d + 1 < k →
    (0 ≤ u0 ∧ u0 < 18446744073709551616) → (0 ≤ v0 ∧ v0 < 18446744073709551616) → (0 ≤ u1 ∧ u1 ≤ i) → (0 ≤ v1 ∧ v1 ≤ i) →
    u1 * 18446744073709551616 + u0 = upSum (l.take i) → v1 * 18446744073709551616 + v0 = downSum (l.take i) →
    custodyref01_Sum.l0 k l i u1 u0 v1 v0 = some (sumV l, sumE l) := by
  induction d with
  | zero =>
    intro k i u1 u0 v1 v0 hi hd hk hu0 hv0 hu1 hv1 hU hV
    obtain ⟨k, rfl⟩ : ∃ m, k = m + 2 := ⟨k - 2, by omega⟩
    obtain rfl : i = l.length := by omega
    rw [List.take_length] at hU hV
    have hs : theSum l = u1 * 18446744073709551616 + u0 - (v1 * 18446744073709551616 + v0) := by rw [theSum_split, hU, hV]
    exact refSum_end l k _ _ _ _ _ (by omega) hu0.1 hu0.2 hv0.1 hv0.2 hu1.1 (by omega) hv1.1 (by omega) hs
  | succ d ih =>
    intro k i u1 u0 v1 v0 hi hd hk hu0 hv0 hu1 hv1 hU hV
    obtain ⟨k, rfl⟩ : ∃ m, k = m + 1 := ⟨k - 1, by omega⟩
    have hlt : i < l.length := by omega
    have hw := idx_next hlt hl
    have hx : rd l (i : Int) = l.getD i 0 := by simp [rd]
    have hb := getD_in hin hlt
    have hup := up_next hlt
    have hdn := down_next hlt
    simp only [custodyref01_Sum.l0]
    rw [if_pos (Int.ofNat_lt.2 hlt), if_pos (Int.natCast_nonneg i), hw, hx]
    generalize l.getD i 0 = x at hb hup hdn ⊢
    clear hx hw
    by_cases h0 : x ≥ 0
    · rw [if_pos h0] at hup hdn
      have e64 : IntKind.u64.wrap x = x := by rw [IntKind.wrap_u64]; omega
      rw [if_pos h0, e64]
      obtain ⟨h2, l2, e, e1, e2, e3, e4, e5⟩ := plus_f u1 u0 x hu1.1 (by omega) hu0.1 hu0.2 h0 (by omega)
      rw [e]
      simp only [Option.bind_some]
      exact ih k (i + 1) h2 l2 v1 v0 (by omega) (by omega) (by omega) ⟨e1, e2⟩ hv0 ⟨e4, by omega⟩ ⟨hv1.1, by omega⟩ (by rw [hup, e3, hU]) (by rw [hdn, hV]; simp)
    · rw [if_neg h0] at hup hdn
      have e64 : IntKind.u64.wrap (-(IntKind.u64.wrap x)) = -x := by rw [IntKind.wrap_u64, IntKind.wrap_u64]; omega
      rw [if_neg h0, e64]
      obtain ⟨h2, l2, e, e1, e2, e3, e4, e5⟩ := plus_f v1 v0 (-x) hv1.1 (by omega) hv0.1 hv0.2 (by omega) (by omega)
      rw [e]
      simp only [Option.bind_some]
      exact ih k (i + 1) u1 u0 h2 l2 (by omega) (by omega) (by omega) hu0 ⟨e1, e2⟩ ⟨hu1.1, by omega⟩ ⟨e4, by omega⟩ (by rw [hup, hU]; simp) (by rw [hdn, e3, hV])
theorem refSum_pure (l : List Int) (hl : l.length * 8 ≤ 140737488351232) (hin : In64 l) : custodyref01_Sum.f (l.length + 2) l = some (sumV l, sumE l) :=
  refSum_loop l hl hin l.length (l.length + 2) 0 0 0 0 0 (by omega) (by omega) (by omega) (by omega) (by omega) (by omega) (by omega) rfl rfl
end Go.Proofs.YtccnfklemalmeaaDoor
