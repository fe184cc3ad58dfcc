/- amount.divided and amount.MulDiv by contracts. -/
import Derived.Test.YtccnfklemalmeaaShDiv
set_option linter.unusedVariables false
set_option linter.unusedSimpArgs false
set_option maxRecDepth 100000
namespace Go.Proofs.Ytccnfklemalmeaa
open Go.RowKit

/-- The quotient is below 2^64: it and the rest come back. -/
theorem divided_yes (a b c : Int) (ha : 0 ≤ a ∧ a ≤ 9223372036854775807) (hb : 0 ≤ b ∧ b ≤ 9223372036854775807) (hc : 0 < c ∧ c ≤ 9223372036854775807) (hlt : a * b / 18446744073709551616 < c) (w : World) :
    Calls Try.prog 14 #[.int .i64 a, .int .i64 b, .int .i64 c] w fun e w' => e = .returned (.tuple #[.int .u64 (a * b / c), .int .u64 (a * b % c), .bool true]) ∧ Below w.heap.size w w' := by
  obtain ⟨A, rfl⟩ := Int.eq_ofNat_of_zero_le ha.1
  obtain ⟨B, rfl⟩ := Int.eq_ofNat_of_zero_le hb.1
  have hm : ∀ w, Calls Try.prog 18 #[.int .u64 (A : Int), .int .u64 (B : Int)] w fun e w' => e = .returned (.tuple #[.int .u64 ((A : Int) * B / 18446744073709551616), .int .u64 ((A : Int) * B % 18446744073709551616)]) ∧ w' = w := fun w => by
    have := Go.Proofs.Try.bits_Mul64 A B (by omega) (by omega) w
    simpa using this
  have hp : 0 ≤ (A : Int) * B := Int.mul_nonneg ha.1 hb.1
  generalize (A : Int) * B = p at hm hp hlt ⊢
  have h0 : 0 ≤ p / 18446744073709551616 := by omega
  have h1 : 0 ≤ p % 18446744073709551616 := by omega
  have h2 : p % 18446744073709551616 < 18446744073709551616 := by omega
  have he : p = p / 18446744073709551616 * 18446744073709551616 + p % 18446744073709551616 := by omega
  have hd : ∀ w, Calls Try.prog 19 #[.int .u64 (p / 18446744073709551616), .int .u64 (p % 18446744073709551616), .int .u64 c] w fun e w' => e = .returned (.tuple #[.int .u64 (p / c), .int .u64 (p % c)]) ∧ Below w.heap.size w w' := fun w => by
    by_cases hz : p / 18446744073709551616 = 0
    · have := div64_low (p % 18446744073709551616) c h1 h2 hc.1 (by omega) w
      rw [show p % 18446744073709551616 = p by omega] at this ⊢
      rw [hz]
      exact this
    · have := div64_high (p / 18446744073709551616) (p % 18446744073709551616) c h1 h2 hlt (by omega) (by omega) w
      rw [← he] at this
      exact this
  obtain ⟨a0, a1⟩ := ha
  obtain ⟨b0, b1⟩ := hb
  obtain ⟨c0, c1⟩ := hc
  have g1 : ¬ c ≤ p / 18446744073709551616 := by omega
  generalize p / 18446744073709551616 = ph at *
  generalize p % 18446744073709551616 = pl at *
  clear he h2 hp
  go_enter Try.func14, Try.ntmps14
  go_wp2_with (first | (go_at_call 18; refine (hm _).mono ?_; rintro e w1 ⟨rfl, rfl⟩) | (go_at_call 19; refine (hd _).mono ?_; rintro e w2 ⟨rfl, hb2⟩))
  go_ret3
  exact ⟨rfl, hb2⟩
theorem divided_no (a b c : Int) (ha : 0 ≤ a ∧ a ≤ 9223372036854775807) (hb : 0 ≤ b ∧ b ≤ 9223372036854775807) (hc : 0 < c ∧ c ≤ 9223372036854775807) (hlt : c ≤ a * b / 18446744073709551616) (w : World) :
    Calls Try.prog 14 #[.int .i64 a, .int .i64 b, .int .i64 c] w fun e w' => e = .returned (.tuple #[.int .u64 0, .int .u64 0, .bool false]) ∧ Below w.heap.size w w' := by
  obtain ⟨A, rfl⟩ := Int.eq_ofNat_of_zero_le ha.1
  obtain ⟨B, rfl⟩ := Int.eq_ofNat_of_zero_le hb.1
  have hm : ∀ w, Calls Try.prog 18 #[.int .u64 (A : Int), .int .u64 (B : Int)] w fun e w' => e = .returned (.tuple #[.int .u64 ((A : Int) * B / 18446744073709551616), .int .u64 ((A : Int) * B % 18446744073709551616)]) ∧ w' = w := fun w => by
    have := Go.Proofs.Try.bits_Mul64 A B (by omega) (by omega) w
    simpa using this
  have hp : 0 ≤ (A : Int) * B := Int.mul_nonneg ha.1 hb.1
  generalize (A : Int) * B = p at hm hp hlt
  have h0 : 0 ≤ p / 18446744073709551616 := by omega
  obtain ⟨a0, a1⟩ := ha
  obtain ⟨b0, b1⟩ := hb
  obtain ⟨c0, c1⟩ := hc
  generalize p / 18446744073709551616 = ph at *
  generalize p % 18446744073709551616 = pl at *
  clear hp
  go_enter Try.func14, Try.ntmps14
  go_wp2_with (go_at_call 18; refine (hm _).mono ?_; rintro e w1 ⟨rfl, rfl⟩)
  go_ret3
  exact ⟨rfl, bl_refl _⟩

/-! ### what MulDiv answers -/
def mdBad (a b c m : Int) : Prop := a < 0 ∨ b < 0 ∨ c ≤ 0 ∨ m < 0 ∨ 3 < m
def mdUp (q r c m : Int) : Prop := (m = 1 ∧ 0 < r) ∨ (m = 2 ∧ c ≤ 2 * r) ∨ (m = 3 ∧ (c < 2 * r ∨ c = 2 * r ∧ q % 2 = 1))
instance (a b c m : Int) : Decidable (mdBad a b c m) := by unfold mdBad; infer_instance
instance (q r c m : Int) : Decidable (mdUp q r c m) := by unfold mdUp; infer_instance
def mdQ (a b c m : Int) : Int := if mdUp (a * b / c) (a * b % c) c m then a * b / c + 1 else a * b / c
def mdE (a b c m : Int) : Int := if mdBad a b c m then 1 else if 9223372036854775807 < mdQ a b c m then 9 else 0
def mdV (a b c m : Int) : Int := if mdE a b c m = 0 then mdQ a b c m else 0
theorem md_bad {a b c m : Int} (h : mdBad a b c m) : mdE a b c m = 1 ∧ mdV a b c m = 0 := by
  have e : mdE a b c m = 1 := if_pos h
  exact ⟨e, by unfold mdV; rw [e]; rfl⟩
theorem md_over {a b c m : Int} (h : ¬ mdBad a b c m) (g : 9223372036854775807 < mdQ a b c m) : mdE a b c m = 9 ∧ mdV a b c m = 0 := by
  have e : mdE a b c m = 9 := by unfold mdE; rw [if_neg h, if_pos g]
  exact ⟨e, by unfold mdV; rw [e]; rfl⟩
theorem md_good {a b c m : Int} (h : ¬ mdBad a b c m) (g : ¬ 9223372036854775807 < mdQ a b c m) : mdE a b c m = 0 ∧ mdV a b c m = mdQ a b c m := by
  have e : mdE a b c m = 0 := by unfold mdE; rw [if_neg h, if_neg g]
  exact ⟨e, by unfold mdV; rw [if_pos e]⟩

theorem mulDiv_bad (a b c m : Int) (ha : I64 a) (hb : I64 b) (hc : I64 c) (hm : I64 m) (h : mdBad a b c m) (w : World) :
    Calls Try.prog 7 #[.int .i64 a, .int .i64 b, .int .i64 c, .int .i64 m] w (RetE (.int .i64 0) 1 w) := by
  unfold mdBad at h
  obtain ⟨ha1, ha2⟩ := ha
  obtain ⟨hb1, hb2⟩ := hb
  obtain ⟨hc1, hc2⟩ := hc
  obtain ⟨hm1, hm2⟩ := hm
  by_cases h1 : a < 0
  · clear h
    go_enter Try.func7, Try.ntmps7
    go_wp2
    go_ret2
    exact ⟨.no 1, rfl, .inr (by simp [GErr.num]), rfl, bl_refl _⟩
  · by_cases h2 : b < 0
    · clear h
      go_enter Try.func7, Try.ntmps7
      go_wp2
      go_ret2
      exact ⟨.no 1, rfl, .inr (by simp [GErr.num]), rfl, bl_refl _⟩
    · by_cases h3 : c ≤ 0
      · clear h
        go_enter Try.func7, Try.ntmps7
        go_wp2
        go_ret2
        exact ⟨.no 1, rfl, .inr (by simp [GErr.num]), rfl, bl_refl _⟩
      · by_cases h4 : m < 0
        · clear h
          go_enter Try.func7, Try.ntmps7
          go_wp2
          go_ret2
          exact ⟨.no 1, rfl, .inr (by simp [GErr.num]), rfl, bl_refl _⟩
        · have h5 : 3 < m := by omega
          clear h
          go_enter Try.func7, Try.ntmps7
          go_wp2
          go_ret2
          exact ⟨.no 1, rfl, .inr (by simp [GErr.num]), rfl, bl_refl _⟩
/-- divided has found a quotient that is no amount, or none. -/
theorem mulDiv_over (a b c m q r : Int) (ok : Bool) (h1 : ¬ a < 0) (h2 : ¬ b < 0) (h3 : ¬ c ≤ 0) (h4 : ¬ m < 0) (h5 : ¬ 3 < m) (hc2 : c ≤ 9223372036854775807) (hr : 0 ≤ r) (hrc : r < c) (hok : ok = false ∨ ok = true ∧ 9223372036854775807 < q) (w : World)
    (hd : ∀ w, Calls Try.prog 14 #[.int .i64 a, .int .i64 b, .int .i64 c] w fun e w' => e = .returned (.tuple #[.int .u64 q, .int .u64 r, .bool ok]) ∧ Below w.heap.size w w') :
    Calls Try.prog 7 #[.int .i64 a, .int .i64 b, .int .i64 c, .int .i64 m] w (RetE (.int .i64 0) 9 w) := by
  have e1 : IntKind.u64.wrap (c - r) = c - r := wrap_in (by omega) (by omega)
  rcases hok with rfl | ⟨rfl, hq⟩
  · go_enter Try.func7, Try.ntmps7
    go_wp2_with (go_at_call 14; refine (hd _).mono ?_; rintro e w1 ⟨rfl, hb⟩)
    go_ret2
    exact ⟨.amount _ 9, rfl, .inr (by simp [GErr.num]), rfl, hb⟩
  · go_enter Try.func7, Try.ntmps7
    go_wp2_with (go_at_call 14; refine (hd _).mono ?_; rintro e w1 ⟨rfl, hb⟩)
    go_ret2
    exact ⟨.amount _ 9, rfl, .inr (by simp [GErr.num]), rfl, hb⟩
/-- Not lifted. -/
theorem mulDiv_down (a b c m q r : Int) (h1 : ¬ a < 0) (h2 : ¬ b < 0) (h3 : ¬ c ≤ 0) (h4 : ¬ m < 0) (h5 : ¬ 3 < m) (hc2 : c ≤ 9223372036854775807) (hr : 0 ≤ r) (hrc : r < c) (hq0 : 0 ≤ q) (hq : q ≤ 9223372036854775807) (hu : ¬ mdUp q r c m) (w : World)
    (hd : ∀ w, Calls Try.prog 14 #[.int .i64 a, .int .i64 b, .int .i64 c] w fun e w' => e = .returned (.tuple #[.int .u64 q, .int .u64 r, .bool true]) ∧ Below w.heap.size w w') :
    Calls Try.prog 7 #[.int .i64 a, .int .i64 b, .int .i64 c, .int .i64 m] w (RetE (.int .i64 q) 0 w) := by
  have e1 : IntKind.u64.wrap (c - r) = c - r := wrap_in (by omega) (by omega)
  have hqm : ¬ 9223372036854775807 < q := by omega
  have hm : m = 0 ∨ m = 1 ∨ m = 2 ∨ m = 3 := by omega
  unfold mdUp at hu
  rcases hm with rfl | rfl | rfl | rfl
  · clear hu
    go_enter Try.func7, Try.ntmps7
    go_wp2_with (go_at_call 14; refine (hd _).mono ?_; rintro e w1 ⟨rfl, hb⟩)
    go_ret2
    exact ⟨.nil, rfl, .inl rfl, rfl, hb⟩
  · have g1 : ¬ 0 < r := by omega
    clear hu
    go_enter Try.func7, Try.ntmps7
    go_wp2_with (go_at_call 14; refine (hd _).mono ?_; rintro e w1 ⟨rfl, hb⟩)
    go_ret2
    exact ⟨.nil, rfl, .inl rfl, rfl, hb⟩
  · have g1 : ¬ c - r ≤ r := by omega
    clear hu
    go_enter Try.func7, Try.ntmps7
    go_wp2_with (go_at_call 14; refine (hd _).mono ?_; rintro e w1 ⟨rfl, hb⟩)
    go_ret2
    exact ⟨.nil, rfl, .inl rfl, rfl, hb⟩
  · have g1 : ¬ c - r < r := by omega
    by_cases g2 : r = c - r
    · have g3 : (r == c - r) = true := by simpa using g2
      have g4 : (q % 2 == 1) = false := by simp; omega
      have g5 : ¬ q % 2 = 1 := by omega
      clear hu g2
      go_enter Try.func7, Try.ntmps7
      go_wp2_with (go_at_call 14; refine (hd _).mono ?_; rintro e w1 ⟨rfl, hb⟩)
      go_ret2
      exact ⟨.nil, rfl, .inl rfl, rfl, hb⟩
    · have g3 : (r == c - r) = false := by simpa using g2
      clear hu
      go_enter Try.func7, Try.ntmps7
      go_wp2_with (go_at_call 14; refine (hd _).mono ?_; rintro e w1 ⟨rfl, hb⟩)
      go_ret2
      exact ⟨.nil, rfl, .inl rfl, rfl, hb⟩
/-- Lifted by one. -/
theorem mulDiv_up (a b c m q r : Int) (h1 : ¬ a < 0) (h2 : ¬ b < 0) (h3 : ¬ c ≤ 0) (h4 : ¬ m < 0) (h5 : ¬ 3 < m) (hc2 : c ≤ 9223372036854775807) (hr : 0 ≤ r) (hrc : r < c) (hq0 : 0 ≤ q) (hq : q ≤ 9223372036854775806) (hu : mdUp q r c m) (w : World)
    (hd : ∀ w, Calls Try.prog 14 #[.int .i64 a, .int .i64 b, .int .i64 c] w fun e w' => e = .returned (.tuple #[.int .u64 q, .int .u64 r, .bool true]) ∧ Below w.heap.size w w') :
    Calls Try.prog 7 #[.int .i64 a, .int .i64 b, .int .i64 c, .int .i64 m] w (RetE (.int .i64 (q + 1)) 0 w) := by
  have e1 : IntKind.u64.wrap (c - r) = c - r := wrap_in (by omega) (by omega)
  have hqm : ¬ 9223372036854775807 < q := by omega
  have hqn : ¬ 9223372036854775807 < q + 1 := by omega
  unfold mdUp at hu
  rcases hu with ⟨rfl, g1⟩ | ⟨rfl, g1⟩ | ⟨rfl, g1 | ⟨g1, g2⟩⟩
  · go_enter Try.func7, Try.ntmps7
    go_wp2_with (go_at_call 14; refine (hd _).mono ?_; rintro e w1 ⟨rfl, hb⟩)
    go_ret2
    exact ⟨.nil, rfl, .inl rfl, rfl, hb⟩
  · have g2 : c - r ≤ r := by omega
    clear g1
    go_enter Try.func7, Try.ntmps7
    go_wp2_with (go_at_call 14; refine (hd _).mono ?_; rintro e w1 ⟨rfl, hb⟩)
    go_ret2
    exact ⟨.nil, rfl, .inl rfl, rfl, hb⟩
  · have g2 : c - r < r := by omega
    clear g1
    go_enter Try.func7, Try.ntmps7
    go_wp2_with (go_at_call 14; refine (hd _).mono ?_; rintro e w1 ⟨rfl, hb⟩)
    go_ret2
    exact ⟨.nil, rfl, .inl rfl, rfl, hb⟩
  · have g3 : ¬ c - r < r := by omega
    have g4 : (r == c - r) = true := by simp; omega
    have g5 : (q % 2 == 1) = true := by simp; omega
    clear g1
    go_enter Try.func7, Try.ntmps7
    go_wp2_with (go_at_call 14; refine (hd _).mono ?_; rintro e w1 ⟨rfl, hb⟩)
    go_ret2
    exact ⟨.nil, rfl, .inl rfl, rfl, hb⟩
/-- Lifted above all amounts. -/
theorem mulDiv_top (a b c m : Int) (r : Int) (h1 : ¬ a < 0) (h2 : ¬ b < 0) (h3 : ¬ c ≤ 0) (h4 : ¬ m < 0) (h5 : ¬ 3 < m) (hc2 : c ≤ 9223372036854775807) (hr : 0 ≤ r) (hrc : r < c) (hu : mdUp 9223372036854775807 r c m) (w : World)
    (hd : ∀ w, Calls Try.prog 14 #[.int .i64 a, .int .i64 b, .int .i64 c] w fun e w' => e = .returned (.tuple #[.int .u64 9223372036854775807, .int .u64 r, .bool true]) ∧ Below w.heap.size w w') :
    Calls Try.prog 7 #[.int .i64 a, .int .i64 b, .int .i64 c, .int .i64 m] w (RetE (.int .i64 0) 9 w) := by
  have e1 : IntKind.u64.wrap (c - r) = c - r := wrap_in (by omega) (by omega)
  unfold mdUp at hu
  rcases hu with ⟨rfl, g1⟩ | ⟨rfl, g1⟩ | ⟨rfl, g1 | ⟨g1, g2⟩⟩
  · go_enter Try.func7, Try.ntmps7
    go_wp2_with (go_at_call 14; refine (hd _).mono ?_; rintro e w1 ⟨rfl, hb⟩)
    go_ret2
    exact ⟨.amount _ 9, rfl, .inr (by simp [GErr.num]), rfl, hb⟩
  · have g2 : c - r ≤ r := by omega
    clear g1
    go_enter Try.func7, Try.ntmps7
    go_wp2_with (go_at_call 14; refine (hd _).mono ?_; rintro e w1 ⟨rfl, hb⟩)
    go_ret2
    exact ⟨.amount _ 9, rfl, .inr (by simp [GErr.num]), rfl, hb⟩
  · have g2 : c - r < r := by omega
    clear g1
    go_enter Try.func7, Try.ntmps7
    go_wp2_with (go_at_call 14; refine (hd _).mono ?_; rintro e w1 ⟨rfl, hb⟩)
    go_ret2
    exact ⟨.amount _ 9, rfl, .inr (by simp [GErr.num]), rfl, hb⟩
  · have g3 : ¬ c - r < r := by omega
    have g4 : (r == c - r) = true := by simp; omega
    clear g1 g2
    go_enter Try.func7, Try.ntmps7
    go_wp2_with (go_at_call 14; refine (hd _).mono ?_; rintro e w1 ⟨rfl, hb⟩)
    go_ret2
    exact ⟨.amount _ 9, rfl, .inr (by simp [GErr.num]), rfl, hb⟩
theorem mulDiv_any (a b c m : Int) (ha : I64 a) (hb : I64 b) (hc : I64 c) (hm : I64 m) (w : World) :
    Calls Try.prog 7 #[.int .i64 a, .int .i64 b, .int .i64 c, .int .i64 m] w (RetE (.int .i64 (mdV a b c m)) (mdE a b c m) w) := by
  by_cases hbad : mdBad a b c m
  · obtain ⟨e1, e2⟩ := md_bad hbad
    rw [e1, e2]
    exact mulDiv_bad a b c m ha hb hc hm hbad w
  · have hn := hbad
    unfold mdBad at hn
    have hq0 : 0 ≤ a * b := Int.mul_nonneg (by omega) (by omega)
    have hr0 := Int.emod_nonneg (a * b) (show c ≠ 0 by omega)
    have hr1 := Int.emod_lt_of_pos (a * b) (show 0 < c by omega)
    have hqq : 0 ≤ a * b / c := Int.ediv_nonneg hq0 (by omega)
    obtain ⟨ha1, ha2⟩ := ha
    obtain ⟨hb1, hb2⟩ := hb
    obtain ⟨hc1, hc2⟩ := hc
    by_cases hlt : a * b / 18446744073709551616 < c
    · have hd := fun w => divided_yes a b c ⟨by omega, ha2⟩ ⟨by omega, hb2⟩ ⟨by omega, hc2⟩ hlt w
      by_cases hu : mdUp (a * b / c) (a * b % c) c m
      · have eQ : mdQ a b c m = a * b / c + 1 := if_pos hu
        by_cases hg : 9223372036854775807 < a * b / c
        · obtain ⟨e1, e2⟩ := md_over hbad (by rw [eQ]; omega)
          rw [e1, e2]
          exact mulDiv_over a b c m _ _ true (by omega) (by omega) (by omega) (by omega) (by omega) hc2 hr0 hr1 (.inr ⟨rfl, hg⟩) w hd
        · by_cases ht : a * b / c = 9223372036854775807
          · obtain ⟨e1, e2⟩ := md_over hbad (by rw [eQ]; omega)
            rw [e1, e2]
            rw [ht] at hu hd
            exact mulDiv_top a b c m _ (by omega) (by omega) (by omega) (by omega) (by omega) hc2 hr0 hr1 hu w hd
          · obtain ⟨e1, e2⟩ := md_good hbad (by rw [eQ]; omega)
            rw [e1, e2, eQ]
            exact mulDiv_up a b c m _ _ (by omega) (by omega) (by omega) (by omega) (by omega) hc2 hr0 hr1 hqq (by omega) hu w hd
      · have eQ : mdQ a b c m = a * b / c := if_neg hu
        by_cases hg : 9223372036854775807 < a * b / c
        · obtain ⟨e1, e2⟩ := md_over hbad (by rw [eQ]; omega)
          rw [e1, e2]
          exact mulDiv_over a b c m _ _ true (by omega) (by omega) (by omega) (by omega) (by omega) hc2 hr0 hr1 (.inr ⟨rfl, hg⟩) w hd
        · obtain ⟨e1, e2⟩ := md_good hbad (by rw [eQ]; omega)
          rw [e1, e2, eQ]
          exact mulDiv_down a b c m _ _ (by omega) (by omega) (by omega) (by omega) (by omega) hc2 hr0 hr1 hqq (by omega) hu w hd
    · have hd := fun w => divided_no a b c ⟨by omega, ha2⟩ ⟨by omega, hb2⟩ ⟨by omega, hc2⟩ (by omega) w
      have hbig : 18446744073709551616 ≤ a * b / c := Int.le_ediv_of_mul_le (by omega) (by generalize a * b = p at *; omega)
      obtain ⟨e1, e2⟩ := md_over hbad (by unfold mdQ; split <;> omega)
      rw [e1, e2]
      exact mulDiv_over a b c m 0 0 false (by omega) (by omega) (by omega) (by omega) (by omega) hc2 (by omega) (by omega) (.inl rfl) w hd
end Go.Proofs.Ytccnfklemalmeaa
