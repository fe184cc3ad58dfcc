/- Joined texts of this proof: LuhnP, CalP. -/
import Derived.KernelRfl
/- The Luhn sum in plain Lean: kept for both ways that the turns may fall, and reckoned from the end: one number. -/
set_option linter.unusedVariables false
set_option linter.unusedSimpArgs false
set_option maxRecDepth 100000
namespace Go.Proofs.YtphabkaiheplpaaGreatDoor

/-- The digits of one sign. -/
def spread1 (c : Int) : List Int := if 48 ≤ c ∧ c ≤ 57 then [c - 48] else [(c - 65) / 10 + 1, (c - 65) % 10]
/-- A digit counted twice. -/
def tw (d : Int) : Int := if 4 < d then d * 2 % 10 + 1 else d * 2 % 10
/-- The digits in turns, once and twice. -/
def alt : Bool → List Int → Int
  | _, [] => 0
  | b, d :: r => (if b then tw d else d) + alt (!b) r
/-- The sum where the last digit counts once, and where it counts twice. -/
def luhn1 (ds : List Int) : Int := alt false ds.reverse
def luhn2 (ds : List Int) : Int := alt true ds.reverse
theorem luhn1_snoc (ds : List Int) (d : Int) : luhn1 (ds ++ [d]) = d + luhn2 ds := by simp [luhn1, luhn2, alt]
theorem luhn2_snoc (ds : List Int) (d : Int) : luhn2 (ds ++ [d]) = tw d + luhn1 ds := by simp [luhn1, luhn2, alt]
theorem tw_small {d : Int} (h0 : 0 ≤ d) (h : d ≤ 4) : tw d = 2 * d := by
  unfold tw
  rw [if_neg (by omega)]
  omega
theorem tw_great {d : Int} (h : 5 ≤ d) (h1 : d ≤ 9) : tw d = 2 * d - 9 := by
  unfold tw
  rw [if_pos (by omega)]
  omega
/-- All of them are digits. -/
def Dig (ds : List Int) : Prop := ∀ d ∈ ds, 0 ≤ d ∧ d ≤ 9
theorem alt_nonneg : ∀ (b : Bool) (ds : List Int), Dig ds → 0 ≤ alt b ds ∧ alt b ds ≤ 9 * ds.length
  | _, [], _ => by simp [alt]
  | b, d :: r, h => by
    have hd := h d (by simp)
    have ih := alt_nonneg (!b) r fun x hx => h x (by simp [hx])
    simp only [alt, List.length_cons]
    have ht : 0 ≤ tw d ∧ tw d ≤ 9 := by
      by_cases e : d ≤ 4
      · rw [tw_small hd.1 e]; omega
      · rw [tw_great (by omega) hd.2]; omega
    cases b <;> simp at ih ⊢ <;> omega
/-- Where the program's fold stands. -/
def Evo (ds : List Int) (even odd : Int) : Prop := even = luhn1 ds % 10 ∧ odd = luhn2 ds % 10
theorem Evo.start : Evo [] 0 0 := ⟨rfl, rfl⟩
theorem Evo.step {ds : List Int} {even odd d : Int} (h : Evo ds even odd) : Evo (ds ++ [d]) ((odd + d) % 10) ((even + tw d) % 10) := by
  obtain ⟨rfl, rfl⟩ := h
  refine ⟨?_, ?_⟩
  · rw [luhn1_snoc]; omega
  · rw [luhn2_snoc]; omega
/-- The document's loop, from the end. -/
theorem from_end {ds : List Int} {i : Nat} {b : Bool} {sum : Int} (hi : i < ds.length) (h : sum + alt b (ds.take (i + 1)).reverse = luhn1 ds) : (sum + (if b then tw (ds.getD i 0) else ds.getD i 0)) + alt (!b) (ds.take i).reverse = luhn1 ds := by
  have e : ds.take (i + 1) = ds.take i ++ [ds.getD i 0] := by
    rw [List.take_succ_eq_append_getElem hi]
    simp [List.getD_eq_getElem?_getD, hi]
  rw [e, List.reverse_append] at h
  simp only [List.reverse_cons, List.reverse_nil, List.nil_append, List.singleton_append, alt] at h
  omega
end Go.Proofs.YtphabkaiheplpaaGreatDoor
/- The steps from a day's number to its date, in plain integers: no month is beyond the twelfth. -/
set_option linter.unusedVariables false
set_option linter.unusedSimpArgs false
set_option maxRecDepth 100000
namespace Go.Proofs.YtphabkaiheplpaaGreatDoor

/-- Within 400 years: the century, the four years, the year, and the day that is left. -/
theorem era_steps {n c f o : Int} (h0 : 0 ≤ n) (h1 : n < 146097) (hc : (c = n / 36524 ∧ n / 36524 ≤ 3) ∨ (c = 3 ∧ 3 < n / 36524)) (hf : f = (n - c * 36524) / 1461)
    (ho : (o = (n - c * 36524 - f * 1461) / 365 ∧ (n - c * 36524 - f * 1461) / 365 ≤ 3) ∨ (o = 3 ∧ 3 < (n - c * 36524 - f * 1461) / 365)) :
    0 ≤ c ∧ c ≤ 3 ∧ 0 ≤ f ∧ f ≤ 24 ∧ 0 ≤ o ∧ o ≤ 3 ∧ 0 ≤ n - c * 36524 ∧ 0 ≤ n - c * 36524 - f * 1461 ∧ 0 ≤ n - c * 36524 - f * 1461 - o * 365 ∧ n - c * 36524 - f * 1461 - o * 365 ≤ 365 ∧ (n - c * 36524 - f * 1461 - o * 365 = 365 → o = 3 ∧ (f = 24 → c = 3)) := by
  omega
def leapY (y : Int) : Bool := decide (y % 4 = 0) && (!decide (y % 100 = 0) || decide (y % 400 = 0))
/-- The last day of a leap year falls in a leap year. -/
theorem leap_of {a c f o y : Int} (hy : y = 400 * a + 1 + (100 * c + 4 * f + o)) (hc : 0 ≤ c ∧ c ≤ 3) (hf : 0 ≤ f ∧ f ≤ 24) (ho : o = 3) (h : f = 24 → c = 3) : leapY y = true := by
  unfold leapY
  have h4 : y % 4 = 0 := by omega
  by_cases e : f = 24
  · have := h e
    have h400 : y % 400 = 0 := by omega
    rw [decide_eq_true h4, decide_eq_true h400]
    simp
  · have h100 : ¬ y % 100 = 0 := by omega
    rw [decide_eq_true h4, decide_eq_false h100]
    rfl
/-- How many days of a common year are ahead of a month. -/
def aheadF : Nat → Int
  | 1 => 0 | 2 => 31 | 3 => 59 | 4 => 90 | 5 => 120 | 6 => 151 | 7 => 181 | 8 => 212 | 9 => 243 | 10 => 273 | 11 => 304 | 12 => 334 | 13 => 365 | _ => 0
/-- How many days a month has. -/
def lenF (lp : Bool) (m : Nat) : Int := aheadF (m + 1) - aheadF m + if m = 2 ∧ lp = true then 1 else 0
/-- The day that is left lies in the months that are left. -/
def InYear (lp : Bool) (m : Nat) (n : Int) : Prop := 1 ≤ m ∧ m ≤ 12 ∧ 0 ≤ n ∧ n < 365 - aheadF m + if m ≤ 2 ∧ lp = true then 1 else 0
theorem InYear.start {lp : Bool} {n : Int} (h0 : 0 ≤ n) (h1 : n ≤ 365) (h : n = 365 → lp = true) : InYear lp 1 n := by
  refine ⟨by omega, by omega, h0, ?_⟩
  cases lp with
  | true => simp [aheadF]; omega
  | false =>
    have : n ≠ 365 := fun e => by simpa using h e
    simp [aheadF]; omega
theorem InYear.step {lp : Bool} {m : Nat} {n : Int} (h : InYear lp m n) (hn : lenF lp m ≤ n) : InYear lp (m + 1) (n - lenF lp m) := by
  obtain ⟨h1, h2, h3, h4⟩ := h
  have hm : m = 1 ∨ m = 2 ∨ m = 3 ∨ m = 4 ∨ m = 5 ∨ m = 6 ∨ m = 7 ∨ m = 8 ∨ m = 9 ∨ m = 10 ∨ m = 11 ∨ m = 12 := by omega
  rcases hm with rfl | rfl | rfl | rfl | rfl | rfl | rfl | rfl | rfl | rfl | rfl | rfl <;> cases lp <;> simp [lenF, aheadF] at hn h4 ⊢ <;> (try (exact absurd h4 (by omega))) <;> refine ⟨by omega, by omega, by omega, ?_⟩ <;> simp [aheadF] <;> omega
theorem lenF_range {lp : Bool} {m : Nat} (h1 : 1 ≤ m) (h2 : m ≤ 12) : 28 ≤ lenF lp m ∧ lenF lp m ≤ 31 := by
  have hm : m = 1 ∨ m = 2 ∨ m = 3 ∨ m = 4 ∨ m = 5 ∨ m = 6 ∨ m = 7 ∨ m = 8 ∨ m = 9 ∨ m = 10 ∨ m = 11 ∨ m = 12 := by omega
  rcases hm with rfl | rfl | rfl | rfl | rfl | rfl | rfl | rfl | rfl | rfl | rfl | rfl <;> cases lp <;> simp [lenF, aheadF]
end Go.Proofs.YtphabkaiheplpaaGreatDoor
