/- Long division by halves of words (Knuth's), in plain integers. -/
import Derived.Laws.BitsAllLaws
import Derived.Laws.MathBits
import Derived.Laws.Bits64
import Derived.Lib.BitFns
set_option linter.unusedVariables false
set_option linter.unusedSimpArgs false
namespace Go.Proofs.Ytccnfklemalmeaa

/-- A normed divisor Y by halves; U below it; one half word d more. -/
structure Digit (Y U d : Int) : Prop where
  y0 : 9223372036854775808 ≤ Y
  y1 : Y < 18446744073709551616
  u0 : 0 ≤ U
  u1 : U < Y
  d0 : 0 ≤ d
  d1 : d < 4294967296
/-- The quotient so far, and what is left. -/
structure DInv (Y U d q r : Int) : Prop where
  req : r = U - q * (Y / 4294967296)
  lo : (U * 4294967296 + d) / Y ≤ q
  hi : q ≤ 4294967297
  q0 : 0 ≤ q
  r0 : 0 ≤ r
  r1 : r < 4294967296
theorem yparts (Y : Int) (h0 : 9223372036854775808 ≤ Y) (h1 : Y < 18446744073709551616) : Y = Y / 4294967296 * 4294967296 + Y % 4294967296 ∧ 2147483648 ≤ Y / 4294967296 ∧ Y / 4294967296 < 4294967296 ∧ 0 ≤ Y % 4294967296 ∧ Y % 4294967296 < 4294967296 := by omega
theorem mulY (q a b Y : Int) (h : Y = a * 4294967296 + b) : q * Y = q * a * 4294967296 + q * b := by
  rw [h, Int.mul_add, Int.mul_assoc]
theorem dstart {Y U d : Int} (h : Digit Y U d) : DInv Y U d (U / (Y / 4294967296)) (U - U / (Y / 4294967296) * (Y / 4294967296)) := by
  obtain ⟨y0, y1, u0, u1, d0, d1⟩ := h
  obtain ⟨hY, a0, a1, b0, b1⟩ := yparts Y y0 y1
  generalize ha : Y / 4294967296 = a at *
  generalize Y % 4294967296 = b at *
  have hm : U - U / a * a = U % a := by have := Int.mul_ediv_add_emod U a; rw [Int.mul_comm] at this; omega
  have hr0 := Int.emod_nonneg U (show a ≠ 0 by omega)
  have hr1 := Int.emod_lt_of_pos U (show 0 < a by omega)
  refine ⟨by rw [ha], ?_, ?_, Int.ediv_nonneg u0 (by omega), by omega, by omega⟩
  · refine Int.le_ediv_of_mul_le (by omega) ?_
    have hq0 : 0 ≤ (U * 4294967296 + d) / Y := Int.ediv_nonneg (by omega) (by omega)
    have hq := Int.ediv_mul_le (U * 4294967296 + d) (show Y ≠ 0 by omega)
    generalize (U * 4294967296 + d) / Y = q at *
    rw [mulY q a b Y hY] at hq
    have hb : 0 ≤ q * b := Int.mul_nonneg hq0 b0
    generalize q * a = m at *
    generalize q * b = n at *
    omega
  · have : U / a < 4294967298 := Int.ediv_lt_of_lt_mul (by omega) (by omega)
    omega
/-- The test says no: the quotient is found. -/
theorem dfound {Y U d q r : Int} (h : Digit Y U d) (i : DInv Y U d q r) (c2 : q * (Y % 4294967296) ≤ 4294967296 * r + d) : q = (U * 4294967296 + d) / Y := by
  obtain ⟨y0, y1, u0, u1, d0, d1⟩ := h
  obtain ⟨hr, lo, hi, q0, r0, r1⟩ := i
  obtain ⟨hY, a0, a1, b0, b1⟩ := yparts Y y0 y1
  generalize Y / 4294967296 = a at *
  generalize Y % 4294967296 = b at *
  refine Int.le_antisymm (Int.le_ediv_of_mul_le (by omega) ?_) lo
  rw [mulY q a b Y hY]
  generalize q * a = m at *
  generalize q * b = n at *
  omega
/-- The test says yes: the quotient is below. -/
theorem dless {Y U d q r : Int} (h : Digit Y U d) (i : DInv Y U d q r) (c : 4294967296 ≤ q ∨ 4294967296 * r + d < q * (Y % 4294967296)) : (U * 4294967296 + d) / Y ≤ q - 1 := by
  obtain ⟨y0, y1, u0, u1, d0, d1⟩ := h
  obtain ⟨hr, lo, hi, q0, r0, r1⟩ := i
  obtain ⟨hY, a0, a1, b0, b1⟩ := yparts Y y0 y1
  have : (U * 4294967296 + d) / Y < q := by
    refine Int.ediv_lt_of_lt_mul (by omega) ?_
    rcases c with c | c
    · have h1 : 4294967296 * Y ≤ q * Y := Int.mul_le_mul_of_nonneg_right c (by omega)
      omega
    · generalize Y / 4294967296 = a at *
      generalize Y % 4294967296 = b at *
      rw [mulY q a b Y hY]
      generalize q * a = m at *
      generalize q * b = n at *
      omega
  omega
/-- One less, and on with the loop. -/
theorem dnext {Y U d q r : Int} (h : Digit Y U d) (i : DInv Y U d q r) (c : 4294967296 ≤ q ∨ 4294967296 * r + d < q * (Y % 4294967296)) (hr : r + Y / 4294967296 < 4294967296) : DInv Y U d (q - 1) (r + Y / 4294967296) := by
  have hl := dless h i c
  have hq0 : 0 ≤ (U * 4294967296 + d) / Y := by
    obtain ⟨y0, y1, u0, u1, d0, d1⟩ := h
    exact Int.ediv_nonneg (by omega) (by omega)
  obtain ⟨y0, y1, u0, u1, d0, d1⟩ := h
  obtain ⟨hY, a0, a1, b0, b1⟩ := yparts Y y0 y1
  obtain ⟨e, lo, hi, q0, r0, r1⟩ := i
  refine ⟨?_, hl, by omega, by omega, by omega, hr⟩
  rw [Int.sub_mul, Int.one_mul, e]
  omega
/-- One less, and the rest is great: found. -/
theorem dbreak {Y U d q r : Int} (h : Digit Y U d) (i : DInv Y U d q r) (c : 4294967296 ≤ q ∨ 4294967296 * r + d < q * (Y % 4294967296)) (hr : 4294967296 ≤ r + Y / 4294967296) : q - 1 = (U * 4294967296 + d) / Y := by
  have hl := dless h i c
  obtain ⟨y0, y1, u0, u1, d0, d1⟩ := h
  obtain ⟨hY, a0, a1, b0, b1⟩ := yparts Y y0 y1
  obtain ⟨e, lo, hi, q0, r0, r1⟩ := i
  generalize Y / 4294967296 = a at *
  generalize Y % 4294967296 = b at *
  refine Int.le_antisymm (Int.le_ediv_of_mul_le (by omega) ?_) hl
  rw [mulY (q - 1) a b Y hY, Int.sub_mul, Int.one_mul]
  have h1 : (q - 1) * b ≤ 4294967296 * b := Int.mul_le_mul_of_nonneg_right (by omega) b0
  generalize (q - 1) * b = n at *
  generalize q * a = m at *
  omega
/-- No product passes a word. -/
theorem dbounds {Y U d q r : Int} (h : Digit Y U d) (i : DInv Y U d q r) : 0 ≤ q * (Y % 4294967296) ∧ q * (Y % 4294967296) < 18446744073709551616 := by
  obtain ⟨y0, y1, u0, u1, d0, d1⟩ := h
  obtain ⟨hY, a0, a1, b0, b1⟩ := yparts Y y0 y1
  obtain ⟨e, lo, hi, q0, r0, r1⟩ := i
  generalize Y % 4294967296 = b at *
  refine ⟨Int.mul_nonneg q0 b0, ?_⟩
  have h1 : q * b ≤ 4294967297 * b := Int.mul_le_mul_of_nonneg_right hi b0
  omega
theorem digit_lt {Y U d : Int} (h : Digit Y U d) : 0 ≤ (U * 4294967296 + d) / Y ∧ (U * 4294967296 + d) / Y < 4294967296 := by
  obtain ⟨y0, y1, u0, u1, d0, d1⟩ := h
  exact ⟨Int.ediv_nonneg (by omega) (by omega), Int.ediv_lt_of_lt_mul (by omega) (by omega)⟩
/-- The rest, reckoned with what is above a word cut off. -/
theorem digit_rest {Y U d : Int} (h : Digit Y U d) : (U * 4294967296 + d - (U * 4294967296 + d) / Y * Y) = (U * 4294967296 + d) % Y ∧ 0 ≤ (U * 4294967296 + d) % Y ∧ (U * 4294967296 + d) % Y < Y := by
  obtain ⟨y0, y1, u0, u1, d0, d1⟩ := h
  have := Int.mul_ediv_add_emod (U * 4294967296 + d) Y
  rw [Int.mul_comm] at this
  have h1 := Int.emod_nonneg (U * 4294967296 + d) (show Y ≠ 0 by omega)
  have h2 := Int.emod_lt_of_pos (U * 4294967296 + d) (show 0 < Y by omega)
  exact ⟨by omega, h1, h2⟩
/-- Two digits make the quotient of two words. -/
theorem two_digits {Y U W : Int} (y0 : 9223372036854775808 ≤ Y) (hu : 0 ≤ U) (hu1 : U < Y) (hw : 0 ≤ W) (hw1 : W < 18446744073709551616) :
    (U * 18446744073709551616 + W) / Y = (U * 4294967296 + W / 4294967296) / Y * 4294967296 + ((U * 4294967296 + W / 4294967296) % Y * 4294967296 + W % 4294967296) / Y ∧
    (U * 18446744073709551616 + W) % Y = ((U * 4294967296 + W / 4294967296) % Y * 4294967296 + W % 4294967296) % Y := by
  have hd := Int.mul_ediv_add_emod (U * 4294967296 + W / 4294967296) Y
  generalize hq : (U * 4294967296 + W / 4294967296) / Y = q1 at *
  generalize hr : (U * 4294967296 + W / 4294967296) % Y = r1 at *
  have e : U * 18446744073709551616 + W = (r1 * 4294967296 + W % 4294967296) + Y * (q1 * 4294967296) := by
    have : Y * (q1 * 4294967296) = Y * q1 * 4294967296 := by rw [Int.mul_assoc]
    rw [this]
    generalize Y * q1 = m at *
    omega
  rw [e, Int.add_mul_ediv_left _ _ (by omega), Int.add_mul_emod_self_left]
  exact ⟨by omega, rfl⟩
/-- Both words lifted by one factor: the quotient is as it was, the rest lifted. -/
theorem lifted_div (n y P : Int) (hP : 0 < P) : n * P / (y * P) = n / y ∧ n * P % (y * P) = n % y * P := by
  refine ⟨Int.mul_ediv_mul_of_pos_left n y hP, ?_⟩
  rw [Int.mul_comm n, Int.mul_comm y, Int.mul_emod_mul_of_pos _ _ hP, Int.mul_comm]
theorem bitLenAux_spec : ∀ (f x : Nat), x < 2 ^ f → x ≠ 0 → 1 ≤ Lib.bitLenAux f x ∧ Lib.bitLenAux f x ≤ f ∧ 2 ^ (Lib.bitLenAux f x - 1) ≤ x ∧ x < 2 ^ Lib.bitLenAux f x
  | 0, x, h, h0 => by simp at h; exact absurd h h0
  | f + 1, x, h, h0 => by
    unfold Lib.bitLenAux
    rw [if_neg h0]
    by_cases h1 : x / 2 = 0
    · have hx : x = 1 := by omega
      subst hx
      have : Lib.bitLenAux f 0 = 0 := by cases f <;> simp [Lib.bitLenAux]
      simp [this]
    · have hp : 2 ^ (f + 1) = 2 ^ f * 2 := Nat.pow_succ 2 f
      obtain ⟨a, b, c, d⟩ := bitLenAux_spec f (x / 2) (by omega) h1
      generalize Lib.bitLenAux f (x / 2) = L at *
      obtain ⟨m, rfl⟩ : ∃ m, L = m + 1 := ⟨L - 1, by omega⟩
      have e1 : 2 ^ (1 + (m + 1) - 1) = 2 ^ m * 2 := by rw [show 1 + (m + 1) - 1 = m + 1 by omega, Nat.pow_succ]
      have e2 : 2 ^ (1 + (m + 1)) = 2 ^ (m + 1) * 2 := by rw [show 1 + (m + 1) = (m + 1) + 1 by omega, Nat.pow_succ]
      rw [e1, e2]
      simp only [Nat.add_sub_cancel] at c
      refine ⟨by omega, by omega, by omega, by omega⟩
/-- The number of bits by which a divisor is lifted. -/
theorem norm_shift (y : Int) (h0 : 0 < y) (h1 : y < 18446744073709551616) : ∃ s : Nat, s ≤ 63 ∧ (64 - (Lib.bitLen y.toNat : Int)) = (s : Int) ∧ 9223372036854775808 ≤ y * 2 ^ s ∧ y * 2 ^ s < 18446744073709551616 := by
  obtain ⟨n, rfl⟩ := Int.eq_ofNat_of_zero_le (show 0 ≤ y by omega)
  obtain ⟨a, b, c, d⟩ := bitLenAux_spec 64 n (by omega) (by omega)
  have hL : Lib.bitLen n = Lib.bitLenAux 64 n := rfl
  rw [Int.toNat_natCast, hL]
  generalize Lib.bitLenAux 64 n = L at *
  have p1 : 2 ^ (L - 1) * 2 ^ (64 - L) = 9223372036854775808 := by rw [← Nat.pow_add, show L - 1 + (64 - L) = 63 by omega]
  have p2 : 2 ^ L * 2 ^ (64 - L) = 18446744073709551616 := by rw [← Nat.pow_add, show L + (64 - L) = 64 by omega]
  have q0 : 0 < 2 ^ (64 - L) := Nat.two_pow_pos _
  have m1 : 2 ^ (L - 1) * 2 ^ (64 - L) ≤ n * 2 ^ (64 - L) := Nat.mul_le_mul_right _ c
  have m2 : n * 2 ^ (64 - L) < 2 ^ L * 2 ^ (64 - L) := Nat.mul_lt_mul_of_pos_right d q0
  rw [p1] at m1
  rw [p2] at m2
  have e : ((n * 2 ^ (64 - L) : Nat) : Int) = (n : Int) * 2 ^ (64 - L) := by rw [Int.natCast_mul, Int.natCast_pow]; rfl
  refine ⟨64 - L, by omega, by omega, ?_, ?_⟩
  · rw [← e]; omega
  · rw [← e]; omega
end Go.Proofs.Ytccnfklemalmeaa
