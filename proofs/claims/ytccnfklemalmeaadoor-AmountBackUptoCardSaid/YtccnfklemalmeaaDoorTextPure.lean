/- Numbers as texts, in plain Lean: the digits of a number, backwards; a text with a point; a power of ten. -/
import Derived.Test.YtccnfklemalmeaaDoorTx2
set_option linter.unusedVariables false
set_option linter.unusedSimpArgs false
namespace Go.Proofs.YtccnfklemalmeaaDoor.Tp
open Go.RowKit Go.Proofs.YtccnfklemalmeaaDoor.PAmountTexts Go.Proofs.YtccnfklemalmeaaDoorW.PrintWords

theorem w64 {x : Int} (h0 : -9223372036854775808 ≤ x) (h1 : x ≤ 9223372036854775807) : wrap64 x = x := by unfold wrap64; omega
def dg (n : Nat) : Int := 48 + ((n % 10 : Nat) : Int)
/-- The digits of n, the last one first, so many at least; c are there already. -/
def revD (n c least : Nat) : List Int := if 0 < n ∨ c < least then dg n :: revD (n / 10) (c + 1) least else []
termination_by n + (least - c)
decreasing_by omega
theorem revD_go {n c least : Nat} (h : 0 < n ∨ c < least) : revD n c least = dg n :: revD (n / 10) (c + 1) least := by rw [revD, if_pos h]
theorem revD_end {n c least : Nat} (h : ¬ (0 < n ∨ c < least)) : revD n c least = [] := by rw [revD, if_neg h]
theorem revD_len (b : Nat) : ∀ n c least : Nat, n < 10 ^ b → (revD n c least).length ≤ b + (least - c) := by
  induction b with
  | zero =>
    intro n c least h
    have : n = 0 := by omega
    subst this
    generalize hd : least - c = d
    induction d generalizing c with
    | zero => rw [revD_end (by omega)]; simp
    | succ d ih =>
      rw [revD_go (by omega)]
      have := ih (c + 1) (by omega)
      simp only [List.length_cons, Nat.zero_div]
      omega
  | succ b ih =>
    intro n c least h
    by_cases hg : 0 < n ∨ c < least
    · rw [revD_go hg]
      have := ih (n / 10) (c + 1) least (by rw [Nat.pow_succ] at h; omega)
      simp only [List.length_cons]
      omega
    · rw [revD_end hg]; simp
theorem revD_shift (b : Nat) : ∀ n c least t : Nat, n + (least - c) ≤ b → revD n (c + t) (least + t) = revD n c least := by
  induction b with
  | zero => intro n c least t h; rw [revD_end (by omega), revD_end (by omega)]
  | succ b ih =>
    intro n c least t h
    by_cases hg : 0 < n ∨ c < least
    · rw [revD_go (n := n) (c := c) hg, revD_go (by omega), show c + t + 1 = (c + 1) + t by omega, ih (n / 10) (c + 1) least t (by omega)]
    · rw [revD_end hg, revD_end (by omega)]
/-- The last s digits, the last one first. -/
def padD : Nat → Nat → List Int
  | 0, _ => []
  | s + 1, n => dg n :: padD s (n / 10)
theorem padD_len (s : Nat) : ∀ n, (padD s n).length = s := by
  induction s with
  | zero => intro n; rfl
  | succ s ih => intro n; simp [padD, ih]
theorem padD_mod (s : Nat) : ∀ n, padD s (n % 10 ^ s) = padD s n := by
  induction s with
  | zero => intro n; rfl
  | succ s ih =>
    intro n
    have e1 : n % 10 ^ (s + 1) % 10 = n % 10 := by rw [Nat.pow_succ, Nat.mul_comm]; exact Nat.mod_mul_right_mod n 10 (10 ^ s)
    have e2 : n % 10 ^ (s + 1) / 10 = n / 10 % 10 ^ s := by rw [Nat.pow_succ, Nat.mul_comm]; exact Nat.mod_mul_right_div_self n 10 (10 ^ s)
    simp only [padD, dg, e1, e2, ih]
theorem revD_pad (s : Nat) : ∀ n c : Nat, n < 10 ^ s → revD n c (c + s) = padD s n := by
  induction s with
  | zero => intro n c h; rw [revD_end (by simp at h; omega)]; rfl
  | succ s ih =>
    intro n c h
    rw [revD_go (by omega), padD, show c + (s + 1) = (c + 1) + s by omega, ih (n / 10) (c + 1) (by rw [Nat.pow_succ] at h; omega)]
theorem revD_split (s : Nat) : ∀ n c : Nat, revD n c (c + s + 1) = padD s n ++ revD (n / 10 ^ s) 0 1 := by
  induction s with
  | zero =>
    intro n c
    have := revD_shift (n + 1) n 0 1 c (by omega)
    simp only [padD, List.nil_append, Nat.pow_zero, Nat.div_one, Nat.add_zero]
    rw [← this]
    congr 1 <;> omega
  | succ s ih =>
    intro n c
    rw [revD_go (by omega), show c + (s + 1) + 1 = (c + 1) + s + 1 by omega, ih (n / 10) (c + 1), padD, Nat.div_div_eq_div_mul, show 10 * 10 ^ s = 10 ^ (s + 1) by rw [Nat.pow_succ, Nat.mul_comm]]
    rfl
theorem dg_wrap (n : Nat) (hn : n ≤ 9223372036854775807) : (wrap64 (48 + Int.tmod (n : Int) 10)) % 256 = dg n := by
  rw [Int.tmod_eq_emod_of_nonneg (by omega), w64 (by omega) (by omega)]
  unfold dg
  omega
theorem div_wrap (n : Nat) (hn : n ≤ 9223372036854775807) : wrap64 (Int.tdiv (n : Int) 10) = ((n / 10 : Nat) : Int) := by
  rw [Int.tdiv_eq_ediv_of_nonneg (by omega), w64 (by omega) (by omega)]
  omega
theorem strOf_append (xs ys : List Int) : strOfNums (xs ++ ys) = strOfNums xs ++ strOfNums ys := by
  apply ByteArray.ext
  apply Array.ext'
  simp [strOfNums, ByteArray.data_append]
/-- The document's Digits. -/
theorem refDigits (b : Nat) : ∀ (n c least k : Nat) (x : ByteArray), n ≤ 9223372036854775807 → least ≤ 100 → x.size = c → c + b ≤ 2000 → (revD n c least).length ≤ b → b < k →
    custodyref01_Digits.l0 k (n : Int) (least : Int) x = some (strOfNums (revD n c least).reverse ++ x) := by
  induction b with
  | zero =>
    intro n c least k x hn hl hx hc hb hk
    obtain ⟨k, rfl⟩ : ∃ j, k = j + 1 := ⟨k - 1, by omega⟩
    have hg : ¬ (0 < n ∨ c < least) := fun hg => by rw [revD_go hg] at hb; simp at hb
    rw [custodyref01_Digits.l0, if_neg (by omega), if_neg (by omega), revD_end hg]
    congr 1
  | succ b ih =>
    intro n c least k x hn hl hx hc hb hk
    obtain ⟨k, rfl⟩ : ∃ j, k = j + 1 := ⟨k - 1, by omega⟩
    by_cases hg : 0 < n ∨ c < least
    · have hs : (strOfNums [dg n] ++ x).size = c + 1 := by rw [ByteArray.size_append, strOfNums_size, hx]; simp; omega
      have hrec : custodyref01_Digits.l0 k (((n / 10 : Nat) : Int)) (least : Int) (strOfNums [dg n] ++ x) = some (strOfNums (revD n c least).reverse ++ x) := by
        rw [ih (n / 10) (c + 1) least k _ (by omega) hl hs (by omega) (by rw [revD_go hg] at hb; simpa using hb) (by omega), revD_go hg, List.reverse_cons, strOf_append, ByteArray.append_assoc]
      rw [custodyref01_Digits.l0]
      have e1 := dg_wrap n hn
      have e2 := div_wrap n hn
      have hsz : (strOfNums [dg n]).size + x.size ≤ 9223372036854775807 := by rw [strOfNums_size, hx]; simp; omega
      by_cases h0 : (n : Int) > 0
      · rw [if_pos h0]
        simp only [Option.bind_some, e1, e2]
        rw [if_pos hsz]
        exact hrec
      · rw [if_neg h0, if_pos (by omega)]
        simp only [Option.bind_some, e1, e2]
        rw [if_pos hsz]
        exact hrec
    · rw [custodyref01_Digits.l0, if_neg (by omega), if_neg (by omega), revD_end hg]
      congr 1
/-- slices.Reverse, from both ends. -/
theorem rev_loop (d : Nat) : ∀ (i j k : Nat) (x : List Int), i + j + 1 = x.length → j + 1 - i ≤ d → x.length ≤ 4611686018427387904 → d < k →
    ∃ r, slices_Reverse_byte_byte.l0 k x (i : Int) (j : Int) = some r ∧ r.length = x.length ∧ ∀ p, r[p]? = if i ≤ p ∧ p ≤ j then x[i + j - p]? else x[p]? := by
  induction d using Nat.strongRecOn with
  | ind d ih =>
    intro i j k x hl hd hx hk
    obtain ⟨k, rfl⟩ : ∃ q, k = q + 1 := ⟨k - 1, by omega⟩
    by_cases h : i < j
    · obtain ⟨r, hr, hrl, hrp⟩ := ih (d - 2) (by omega) (i + 1) (j - 1) k ((x.set i (rd x (j : Int))).set j (rd x (i : Int))) (by simp; omega) (by omega) (by simpa using hx) (by omega)
      refine ⟨r, ?_, by simpa using hrl, fun p => ?_⟩
      · rw [slices_Reverse_byte_byte.l0, if_pos (by omega), if_pos (by omega), if_pos (by omega), if_pos (by omega), if_pos (by omega), w64 (by omega) (by omega), w64 (by omega) (by omega)]
        rw [← hr]
        congr 1
        omega
      · have g : ∀ q : Nat, q < x.length → x[q]? = some (rd x (q : Int)) := fun q hq => by
          rw [List.getElem?_eq_getElem hq]
          simp [rd, List.getD_eq_getElem?_getD, List.getElem?_eq_getElem hq]
        rw [hrp p]
        by_cases h1 : p = i
        · subst h1
          rw [if_neg (by omega), if_pos (by omega), List.getElem?_set_ne (by omega), List.getElem?_set_self (by omega), show p + j - p = j by omega, g j (by omega)]
        · by_cases h2 : p = j
          · subst h2
            rw [if_neg (by omega), if_pos (by omega), List.getElem?_set_self (by simp; omega), show i + p - p = i by omega, g i (by omega)]
          · by_cases h3 : i + 1 ≤ p ∧ p ≤ j - 1
            · rw [if_pos h3, if_pos (by omega), show i + 1 + (j - 1) - p = i + j - p by omega, List.getElem?_set_ne (by omega), List.getElem?_set_ne (by omega)]
            · rw [if_neg h3, if_neg (by omega), List.getElem?_set_ne (by omega), List.getElem?_set_ne (by omega)]
    · refine ⟨x, by rw [slices_Reverse_byte_byte.l0, if_neg (by omega)], rfl, fun p => ?_⟩
      by_cases h1 : i ≤ p ∧ p ≤ j
      · rw [if_pos h1, show i + j - p = p by omega]
      · rw [if_neg h1]
theorem rev_f (x : List Int) (hx : x.length ≤ 1000000) (k : Nat) (hk : x.length + 1 < k) : slices_Reverse_byte_byte.f k x = some x.reverse := by
  unfold slices_Reverse_byte_byte.f
  cases x with
  | nil =>
    obtain ⟨k, rfl⟩ : ∃ q, k = q + 1 := ⟨k - 1, by omega⟩
    rw [slices_Reverse_byte_byte.l0, if_neg (by simp [w64])]
    rfl
  | cons a t =>
    have hx' : t.length + 1 ≤ 1000000 := by simpa using hx
    have e : wrap64 (((a :: t).length : Int) - 1) = ((t.length : Nat) : Int) := by rw [show (((a :: t).length : Nat) : Int) - 1 = ((t.length : Nat) : Int) by simp, w64 (by omega) (by omega)]
    rw [e]
    obtain ⟨r, hr, hrl, hrp⟩ := rev_loop (t.length + 1) 0 t.length k (a :: t) (by simp) (by omega) (by simp only [List.length_cons] at hx ⊢; omega) (by simp only [List.length_cons] at hk; omega)
    rw [show (0 : Int) = ((0 : Nat) : Int) from rfl, hr]
    congr 1
    apply List.ext_getElem?
    intro p
    rw [hrp p]
    by_cases h : p < (a :: t).length
    · rw [if_pos (by simp only [List.length_cons] at h; omega), List.getElem?_reverse h]
      congr 1
      simp only [List.length_cons]
      omega
    · rw [if_neg (by simp only [List.length_cons] at h; omega), List.getElem?_eq_none (by omega), List.getElem?_eq_none (by rw [List.length_reverse]; omega)]
/-- amount.digits. -/
theorem amDigits (b : Nat) : ∀ (n least k : Nat) (x : List Int), n ≤ 9223372036854775807 → least ≤ 100 → x.length + b ≤ 2000 → (revD n x.length least).length ≤ b → b + x.length + b + 3 < k →
    amount_digits.l0 k (n : Int) (least : Int) x = some (strOfNums (x ++ revD n x.length least).reverse) := by
  induction b with
  | zero =>
    intro n least k x hn hl hc hb hk
    obtain ⟨k, rfl⟩ : ∃ j, k = j + 1 := ⟨k - 1, by omega⟩
    have hg : ¬ (0 < n ∨ x.length < least) := fun hg => by rw [revD_go hg] at hb; simp at hb
    rw [amount_digits.l0, if_neg (by omega), if_neg (by omega), revD_end hg, rev_f x (by omega) k (by omega), List.append_nil]
    rfl
  | succ b ih =>
    intro n least k x hn hl hc hb hk
    obtain ⟨k, rfl⟩ : ∃ j, k = j + 1 := ⟨k - 1, by omega⟩
    by_cases hg : 0 < n ∨ x.length < least
    · have hxl : (x ++ [dg n]).length = x.length + 1 := by simp
      have hrec : amount_digits.l0 k (((n / 10 : Nat) : Int)) (least : Int) (x ++ [dg n]) = some (strOfNums (x ++ revD n x.length least).reverse) := by
        rw [ih (n / 10) least k _ (by omega) hl (by rw [hxl]; omega) (by rw [hxl]; rw [revD_go hg] at hb; simpa using hb) (by rw [hxl]; omega), hxl, revD_go hg]
        simp
      rw [amount_digits.l0]
      have e1 := dg_wrap n hn
      have e2 := div_wrap n hn
      by_cases h0 : (n : Int) > 0
      · rw [if_pos h0, if_pos (by omega), e1, e2]
        exact hrec
      · rw [if_neg h0, if_pos (by omega), if_pos (by omega), e1, e2]
        exact hrec
    · rw [amount_digits.l0, if_neg (by omega), if_neg (by omega), revD_end hg, rev_f x (by omega) k (by omega), List.append_nil]
      rfl
theorem refTen (d : Nat) : ∀ (i s k : Nat), i + d = s → s ≤ 18 → d < k → custodyref01_Ten.l0 k (s : Int) (((10 ^ i : Nat)) : Int) (i : Int) = some (((10 ^ s : Nat)) : Int) := by
  induction d with
  | zero =>
    intro i s k h hs hk
    obtain ⟨k, rfl⟩ : ∃ j, k = j + 1 := ⟨k - 1, by omega⟩
    rw [custodyref01_Ten.l0, if_neg (by omega), show i = s by omega]
  | succ d ih =>
    intro i s k h hs hk
    obtain ⟨k, rfl⟩ : ∃ j, k = j + 1 := ⟨k - 1, by omega⟩
    have hp : 10 ^ i * 10 ≤ 10 ^ 18 := by rw [← Nat.pow_succ]; exact Nat.pow_le_pow_right (by omega) (by omega)
    have e : wrap64 (((10 ^ i : Nat) : Int) * 10) = ((10 ^ (i + 1) : Nat) : Int) := by
      rw [w64 (by omega) (by omega), Nat.pow_succ]
      omega
    rw [custodyref01_Ten.l0, if_pos (by omega), e, w64 (x := (i : Int) + 1) (by omega) (by omega), show (i : Int) + 1 = ((i + 1 : Nat) : Int) by omega]
    exact ih (i + 1) s k (by omega) hs (by omega)
end Go.Proofs.YtccnfklemalmeaaDoor.Tp
