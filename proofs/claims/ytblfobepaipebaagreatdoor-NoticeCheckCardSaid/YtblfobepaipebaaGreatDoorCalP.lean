/- The steps from a day's number to its date, in plain integers: no month is beyond the twelfth. -/
import Derived.KernelRfl
set_option linter.unusedVariables false
set_option linter.unusedSimpArgs false
set_option maxRecDepth 100000
namespace Go.Proofs.YtblfobepaipebaaGreatDoor

/-- Within 400 years: the century, the four years, the year, and the day that is left. -/
theorem era_steps {n c f o : Int} (h0 : 0 ≤ n) (h1 : n < 146097) (hc : (c = n / 36524 ∧ n / 36524 ≤ 3) ∨ (c = 3 ∧ 3 < n / 36524)) (hf : f = (n - c * 36524) / 1461)
    (ho : (o = (n - c * 36524 - f * 1461) / 365 ∧ (n - c * 36524 - f * 1461) / 365 ≤ 3) ∨ (o = 3 ∧ 3 < (n - c * 36524 - f * 1461) / 365)) :
    0 ≤ c ∧ c ≤ 3 ∧ 0 ≤ f ∧ f ≤ 24 ∧ 0 ≤ o ∧ o ≤ 3 ∧ 0 ≤ n - c * 36524 ∧ 0 ≤ n - c * 36524 - f * 1461 ∧ 0 ≤ n - c * 36524 - f * 1461 - o * 365 ∧ n - c * 36524 - f * 1461 - o * 365 ≤ 365 ∧ (n - c * 36524 - f * 1461 - o * 365 = 365 → o = 3 ∧ (f = 24 → c = 3)) := by
  omega
def leapY (y : Int) : Bool := decide (y % 4 = 0) && (!decide (y % 100 = 0) || decide (y % 400 = 0))
/-- The last day of a leap year falls in a leap year. -/
theorem leap_of {a c f o y : Int} (hy : y = 400 * a + 1 + (100 * c + 4 * f + o)) (hc : 0 ≤ c ∧ c ≤ 3) (hf : 0 ≤ f ∧ f ≤ 24) (ho : o = 3) (h : f = 24 → c = 3) : leapY y = true := by
  unfold leapY
  have h4 : y % 4 = 0 := by omega
  by_cases e : f = 24
  · have := h e
    have h400 : y % 400 = 0 := by omega
    rw [decide_eq_true h4, decide_eq_true h400]
    simp
  · have h100 : ¬ y % 100 = 0 := by omega
    rw [decide_eq_true h4, decide_eq_false h100]
    rfl
/-- How many days of a common year are ahead of a month. -/
def aheadF : Nat → Int
  | 1 => 0 | 2 => 31 | 3 => 59 | 4 => 90 | 5 => 120 | 6 => 151 | 7 => 181 | 8 => 212 | 9 => 243 | 10 => 273 | 11 => 304 | 12 => 334 | 13 => 365 | _ => 0
/-- How many days a month has. -/
def lenF (lp : Bool) (m : Nat) : Int := aheadF (m + 1) - aheadF m + if m = 2 ∧ lp = true then 1 else 0
/-- The day that is left lies in the months that are left. -/
def InYear (lp : Bool) (m : Nat) (n : Int) : Prop := 1 ≤ m ∧ m ≤ 12 ∧ 0 ≤ n ∧ n < 365 - aheadF m + if m ≤ 2 ∧ lp = true then 1 else 0
theorem InYear.start {lp : Bool} {n : Int} (h0 : 0 ≤ n) (h1 : n ≤ 365) (h : n = 365 → lp = true) : InYear lp 1 n := by
  refine ⟨by omega, by omega, h0, ?_⟩
  cases lp with
  | true => simp [aheadF]; omega
  | false =>
    have : n ≠ 365 := fun e => by simpa using h e
    simp [aheadF]; omega
theorem InYear.step {lp : Bool} {m : Nat} {n : Int} (h : InYear lp m n) (hn : lenF lp m ≤ n) : InYear lp (m + 1) (n - lenF lp m) := by
  obtain ⟨h1, h2, h3, h4⟩ := h
  have hm : m = 1 ∨ m = 2 ∨ m = 3 ∨ m = 4 ∨ m = 5 ∨ m = 6 ∨ m = 7 ∨ m = 8 ∨ m = 9 ∨ m = 10 ∨ m = 11 ∨ m = 12 := by omega
  rcases hm with rfl | rfl | rfl | rfl | rfl | rfl | rfl | rfl | rfl | rfl | rfl | rfl <;> cases lp <;> simp [lenF, aheadF] at hn h4 ⊢ <;> (try (exact absurd h4 (by omega))) <;> refine ⟨by omega, by omega, by omega, ?_⟩ <;> simp [aheadF] <;> omega
theorem lenF_range {lp : Bool} {m : Nat} (h1 : 1 ≤ m) (h2 : m ≤ 12) : 28 ≤ lenF lp m ∧ lenF lp m ≤ 31 := by
  have hm : m = 1 ∨ m = 2 ∨ m = 3 ∨ m = 4 ∨ m = 5 ∨ m = 6 ∨ m = 7 ∨ m = 8 ∨ m = 9 ∨ m = 10 ∨ m = 11 ∨ m = 12 := by omega
  rcases hm with rfl | rfl | rfl | rfl | rfl | rfl | rfl | rfl | rfl | rfl | rfl | rfl <;> cases lp <;> simp [lenF, aheadF]
end Go.Proofs.YtblfobepaipebaaGreatDoor
