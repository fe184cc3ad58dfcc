/- The reference's products and quotients, as they were printed, in plain integers. -/
import Derived.Test.YtccnfklemalmeaaDoorPAmountMulDivx2
import Derived.Test.YtccnfklemalmeaaDoorMulDiv
set_option linter.unusedVariables false
set_option linter.unusedSimpArgs false
namespace Go.Proofs.YtccnfklemalmeaaDoor.Md
open Go.RowKit Go.Proofs.YtccnfklemalmeaaDoor.PAmountMulDiv Go.Proofs.YtccnfklemalmeaaDoorW.PrintWords

/-- A number of two words. -/
def W2 (h l n : Int) : Prop := 0 ≤ h ∧ h < 18446744073709551616 ∧ 0 ≤ l ∧ l < 18446744073709551616 ∧ h * 18446744073709551616 + l = n
theorem W2.bound {h l n : Int} (a : W2 h l n) : 0 ≤ n ∧ n < 340282366920938463463374607431768211456 := by obtain ⟨a, b, c, d, e⟩ := a; omega
theorem plus_g {a b c d m n : Int} (h1 : W2 a b m) (h2 : W2 c d n) (hs : m + n < 340282366920938463463374607431768211456) : ∃ h l, custodyref01_Plus.f a b c d = some (h, l) ∧ W2 h l (m + n) := by
  obtain ⟨a0, a1, b0, b1, rfl⟩ := h1
  obtain ⟨c0, c1, d0, d1, rfl⟩ := h2
  unfold custodyref01_Plus.f W2
  simp only [IntKind.wrap_u64]
  split
  · exact ⟨_, _, rfl, by omega, by omega, by omega, by omega, by omega⟩
  · exact ⟨_, _, rfl, by omega, by omega, by omega, by omega, by omega⟩
theorem less_g {a b c d m n : Int} (h1 : W2 a b m) (h2 : W2 c d n) : custodyref01_Less.f a b c d = some (decide (m < n)) := by
  obtain ⟨a0, a1, b0, b1, rfl⟩ := h1
  obtain ⟨c0, c1, d0, d1, rfl⟩ := h2
  unfold custodyref01_Less.f
  split
  · rw [decide_eq_true (by omega)]
  · split
    · subst_vars
      congr 1
      by_cases h : b < d
      · rw [decide_eq_true h, decide_eq_true (by omega)]
      · rw [decide_eq_false h, decide_eq_false (by omega)]
    · rw [decide_eq_false (by omega)]
theorem minus_g {a b c d m n : Int} (h1 : W2 a b m) (h2 : W2 c d n) (hs : n ≤ m) : ∃ h l, custodyref01_Minus.f a b c d = some (h, l) ∧ W2 h l (m - n) := by
  obtain ⟨a0, a1, b0, b1, rfl⟩ := h1
  obtain ⟨c0, c1, d0, d1, rfl⟩ := h2
  unfold custodyref01_Minus.f W2
  simp only [IntKind.wrap_u64]
  split
  · exact ⟨_, _, rfl, by omega, by omega, by omega, by omega, by omega⟩
  · exact ⟨_, _, rfl, by omega, by omega, by omega, by omega, by omega⟩
theorem half_prod {x y : Int} (a : 0 ≤ x ∧ x < 4294967296) (b : 0 ≤ y ∧ y < 4294967296) : 0 ≤ x * y ∧ x * y ≤ 18446744065119617025 := by
  refine ⟨Int.mul_nonneg a.1 b.1, ?_⟩
  have h1 : x * y ≤ x * 4294967295 := Int.mul_le_mul_of_nonneg_left (by omega) a.1
  omega
theorem times_f (a b : Int) (ha : 0 ≤ a ∧ a < 18446744073709551616) (hb : 0 ≤ b ∧ b < 18446744073709551616) : ∃ h l, custodyref01_Times.f a b = some (h, l) ∧ W2 h l (a * b) := by
  unfold custodyref01_Times.f
  rw [Int.tmod_eq_emod_of_nonneg ha.1, Int.tmod_eq_emod_of_nonneg hb.1]
  have ea : a = a / 4294967296 * 4294967296 + a % 4294967296 := by omega
  have eb : b = b / 4294967296 * 4294967296 + b % 4294967296 := by omega
  have a1 : 0 ≤ a / 4294967296 ∧ a / 4294967296 < 4294967296 := by omega
  have a0 : 0 ≤ a % 4294967296 ∧ a % 4294967296 < 4294967296 := by omega
  have b1 : 0 ≤ b / 4294967296 ∧ b / 4294967296 < 4294967296 := by omega
  have b0 : 0 ≤ b % 4294967296 ∧ b % 4294967296 < 4294967296 := by omega
  generalize a / 4294967296 = x1 at *
  generalize a % 4294967296 = x0 at *
  generalize b / 4294967296 = y1 at *
  generalize b % 4294967296 = y0 at *
  have e : a * b = x1 * y1 * 18446744073709551616 + x0 * y0 + x1 * y0 * 4294967296 + x0 * y1 * 4294967296 := by
    rw [ea, eb, Int.add_mul, Int.mul_add, Int.mul_add]
    have e1 : x1 * 4294967296 * (y1 * 4294967296) = x1 * y1 * 18446744073709551616 := by rw [Int.mul_assoc, Int.mul_left_comm 4294967296 y1, ← Int.mul_assoc, Int.mul_assoc x1, Int.mul_assoc]; rfl
    have e2 : x1 * 4294967296 * y0 = x1 * y0 * 4294967296 := Int.mul_right_comm _ _ _
    have e3 : x0 * (y1 * 4294967296) = x0 * y1 * 4294967296 := (Int.mul_assoc _ _ _).symm
    rw [e1, e2, e3]
    omega
  have p11 := half_prod a1 b1
  have p00 := half_prod a0 b0
  have p10 := half_prod a1 b0
  have p01 := half_prod a0 b1
  rw [e]
  generalize x1 * y1 = m11 at *
  generalize x0 * y0 = m00 at *
  generalize x1 * y0 = m10 at *
  generalize x0 * y1 = m01 at *
  clear e ea eb a1 a0 b1 b0
  have w11 : IntKind.u64.wrap m11 = m11 := by rw [IntKind.wrap_u64]; omega
  have w00 : IntKind.u64.wrap m00 = m00 := by rw [IntKind.wrap_u64]; omega
  have w10 : IntKind.u64.wrap m10 = m10 := by rw [IntKind.wrap_u64]; omega
  have w01 : IntKind.u64.wrap m01 = m01 := by rw [IntKind.wrap_u64]; omega
  rw [w11, w00, w10, w01]
  have s1 : W2 m11 m00 (m11 * 18446744073709551616 + m00) := ⟨by omega, by omega, by omega, by omega, rfl⟩
  have s2 : W2 (m10 / 4294967296) (IntKind.u64.wrap (m10 * 4294967296)) (m10 * 4294967296) := by unfold W2; rw [IntKind.wrap_u64]; omega
  have s3 : W2 (m01 / 4294967296) (IntKind.u64.wrap (m01 * 4294967296)) (m01 * 4294967296) := by unfold W2; rw [IntKind.wrap_u64]; omega
  obtain ⟨h, l, e1, t1⟩ := plus_g s1 s2 (by omega)
  rw [e1]
  simp only [Option.bind_some]
  obtain ⟨h', l', e2, t2⟩ := plus_g t1 s3 (by omega)
  rw [e2]
  exact ⟨h', l', rfl, t2⟩
theorem pow_pos2 (t : Nat) : (0 : Int) < 2 ^ t := Int.pow_pos (by omega)
theorem half_pow (N : Int) (t : Nat) : N / 2 ^ (t + 1) = N / 2 ^ t / 2 := by
  rw [Int.pow_succ, Int.ediv_ediv_of_nonneg (Int.le_of_lt (pow_pos2 t))]
theorem bit_hi {hi lo N : Int} (h : W2 hi lo N) (t : Nat) (h64 : 64 ≤ t) (ht : t < 128) : Int.tmod (Go.Proofs.YtccnfklemalmeaaDoorW.PrintWords.shr .u64 hi (IntKind.u64.wrap (wrap64 ((t : Int) - 64)))) 2 = N / 2 ^ t % 2 := by
  obtain ⟨a, b, c, d, e⟩ := h
  have e1 : IntKind.u64.wrap (wrap64 ((t : Int) - 64)) = ((t - 64 : Nat) : Int) := by rw [IntKind.wrap_u64]; unfold wrap64; omega
  rw [e1]
  unfold Go.Proofs.YtccnfklemalmeaaDoorW.PrintWords.shr
  rw [Int.toNat_natCast, show min (t - 64) IntKind.u64.bits = t - 64 by simp [IntKind.bits]; omega]
  have e2 : (2 : Int) ^ t = 18446744073709551616 * 2 ^ (t - 64) := by
    have : (2 : Int) ^ t = 2 ^ 64 * 2 ^ (t - 64) := by rw [← Int.pow_add, show 64 + (t - 64) = t by omega]
    rw [this]
    rfl
  rw [e2, ← Int.ediv_ediv_of_nonneg (by omega), show N / 18446744073709551616 = hi by omega]
  exact Int.tmod_eq_emod_of_nonneg (Int.ediv_nonneg a (Int.le_of_lt (pow_pos2 _)))
theorem bit_lo {hi lo N : Int} (h : W2 hi lo N) (t : Nat) (h64 : t < 64) : Int.tmod (Go.Proofs.YtccnfklemalmeaaDoorW.PrintWords.shr .u64 lo (IntKind.u64.wrap (t : Int))) 2 = N / 2 ^ t % 2 := by
  obtain ⟨a, b, c, d, e⟩ := h
  have e1 : IntKind.u64.wrap (t : Int) = (t : Int) := by rw [IntKind.wrap_u64]; omega
  rw [e1]
  unfold Go.Proofs.YtccnfklemalmeaaDoorW.PrintWords.shr
  rw [Int.toNat_natCast, show min t IntKind.u64.bits = t by simp [IntKind.bits]; omega]
  have e2 : (18446744073709551616 : Int) = 2 ^ t * (2 * 2 ^ (63 - t)) := by
    have : (2 : Int) ^ 64 = 2 ^ t * (2 * 2 ^ (63 - t)) := by
      have e3 : (2 : Int) * 2 ^ (63 - t) = 2 ^ (64 - t) := by rw [show 64 - t = (63 - t) + 1 by omega, Int.pow_succ, Int.mul_comm]
      rw [e3, ← Int.pow_add, show t + (64 - t) = 64 by omega]
    rw [← this]
    rfl
  have e4 : N = lo + 2 ^ t * (2 * (2 ^ (63 - t) * hi)) := by
    rw [← e, e2, Int.add_comm, Int.mul_comm hi, Int.mul_assoc, Int.mul_assoc]
  rw [e4, Int.add_mul_ediv_left _ _ (Int.ne_of_gt (pow_pos2 t)), Int.add_mul_emod_self_left]
  exact Int.tmod_eq_emod_of_nonneg (Int.ediv_nonneg c (Int.le_of_lt (pow_pos2 _)))
theorem bit_add {h l R b : Int} (w : W2 h l (R + R)) (hb : 0 ≤ b ∧ b ≤ 1) : W2 h (IntKind.u64.wrap (l + b)) (R + R + b) := by
  obtain ⟨a, c, d, e, f⟩ := w
  unfold W2
  rw [IntKind.wrap_u64]
  omega
theorem over_step (c hi lo N : Int) (hN : W2 hi lo N) (hc0 : 0 < c) (hc1 : c < 18446744073709551616) (k t : Nat) (ht : t < 128) (b q1 q0 r1 r0 Q R : Int) (hb : b = N / 2 ^ t % 2)
    (hQ : W2 q1 q0 Q) (hR : W2 r1 r0 R) (hRc : R < c) (hI : Q * c + R = N / 2 ^ (t + 1)) :
    ∃ q1' q0' r1' r0' Q' R', custodyref01_Over.j1 (k + 1) c t b hi lo q1 q0 r1 r0 = custodyref01_Over.l0 k c ((t : Int) - 1) hi lo q1' q0' r1' r0' ∧ W2 q1' q0' Q' ∧ W2 r1' r0' R' ∧ R' < c ∧ Q' * c + R' = N / 2 ^ t := by
  have hNb := hN.bound
  have hQb := hQ.bound
  have hRb := hR.bound
  have hh := half_pow N t
  have hM0 : 0 ≤ N / 2 ^ t := Int.ediv_nonneg hNb.1 (Int.le_of_lt (pow_pos2 t))
  have hMle : N / 2 ^ t ≤ N := Int.ediv_le_self _ hNb.1
  have hQc : Q ≤ Q * c := by
    have := Int.mul_le_mul_of_nonneg_left (show 1 ≤ c by omega) hQb.1
    omega
  rw [hh] at hI
  generalize N / 2 ^ t = M at *
  clear hh
  have hb01 : 0 ≤ b ∧ b ≤ 1 := by omega
  have hM : M = (Q * c + R) + (Q * c + R) + b := by omega
  have hd : (Q + Q) * c = Q * c + Q * c := Int.add_mul _ _ _
  obtain ⟨rh, rl, e1, w1⟩ := plus_g hR hR (by omega)
  obtain ⟨qh, ql, e2, w2⟩ := plus_g hQ hQ (by omega)
  have w3 := bit_add w1 hb01
  have wc : W2 0 c c := ⟨by omega, by omega, by omega, by omega, by omega⟩
  have ew : wrap64 ((t : Int) - 1) = (t : Int) - 1 := by unfold wrap64; omega
  simp only [custodyref01_Over.j1]
  rw [e1]
  simp only [Option.bind_some]
  rw [e2]
  simp only [Option.bind_some]
  rw [less_g w3 wc]
  simp only [Option.bind_some, ew]
  by_cases hl : R + R + b < c
  · rw [if_pos (decide_eq_true hl)]
    exact ⟨_, _, _, _, _, _, rfl, w2, w3, hl, by rw [hd]; omega⟩
  · rw [if_neg (by simpa using hl)]
    obtain ⟨sh, sl, e3, w4⟩ := minus_g w3 wc (by omega)
    rw [e3]
    simp only [Option.bind_some]
    exact ⟨_, _, _, _, _, _, rfl, bit_add (b := 1) w2 (by omega), w4, by omega, by rw [Int.add_mul, hd, Int.one_mul]; omega⟩
theorem over_loop (c hi lo N : Int) (hN : W2 hi lo N) (hc0 : 0 < c) (hc1 : c < 18446744073709551616) : ∀ (t k : Nat) (q1 q0 r1 r0 Q R : Int), t ≤ 128 → 2 * t < k → W2 q1 q0 Q → W2 r1 r0 R → R < c → Q * c + R = N / 2 ^ t →
    ∃ h l, custodyref01_Over.l0 k c ((t : Int) - 1) hi lo q1 q0 r1 r0 = some (h, l, N % c) ∧ W2 h l (N / c)
  | 0, k, q1, q0, r1, r0, Q, R, _, hk, hQ, hR, hRc, hI => by
    obtain ⟨k, rfl⟩ : ∃ m, k = m + 1 := ⟨k - 1, by omega⟩
    simp only [custodyref01_Over.l0]
    rw [if_neg (by omega)]
    have hRb := hR.bound
    have e0 : N = R + c * Q := by rw [Int.mul_comm c]; simp at hI; omega
    have e1 : N / c = Q := by rw [e0, Int.add_mul_ediv_left _ _ (by omega), Int.ediv_eq_zero_of_lt hRb.1 hRc]; omega
    have e2 : N % c = R := by rw [e0, Int.add_mul_emod_self_left, Int.emod_eq_of_lt hRb.1 hRc]
    have e3 : r0 = R := by obtain ⟨a, b, c', d, e⟩ := hR; omega
    rw [e1, e2, e3]
    exact ⟨_, _, rfl, hQ⟩
  | t + 1, k, q1, q0, r1, r0, Q, R, ht, hk, hQ, hR, hRc, hI => by
    obtain ⟨k, rfl⟩ : ∃ m, k = m + 2 := ⟨k - 2, by omega⟩
    have ex : ((t + 1 : Nat) : Int) - 1 = (t : Int) := by omega
    rw [ex]
    have next : ∀ b, b = N / 2 ^ t % 2 → ∃ h l, custodyref01_Over.j1 (k + 1) c t b hi lo q1 q0 r1 r0 = some (h, l, N % c) ∧ W2 h l (N / c) := by
      intro b hb
      obtain ⟨q1', q0', r1', r0', Q', R', e, a1, a2, a3, a4⟩ := over_step c hi lo N hN hc0 hc1 k t (by omega) b q1 q0 r1 r0 Q R hb hQ hR hRc hI
      rw [e]
      exact over_loop c hi lo N hN hc0 hc1 t k q1' q0' r1' r0' Q' R' (by omega) (by omega) a1 a2 a3 a4
    simp only [custodyref01_Over.l0]
    rw [if_pos (by omega)]
    by_cases h64 : 64 ≤ t
    · rw [if_pos (by omega), if_pos (by rw [IntKind.wrap_u64]; omega)]
      exact next _ (bit_hi hN t h64 (by omega))
    · rw [if_neg (by omega), if_pos (by rw [IntKind.wrap_u64]; omega)]
      exact next _ (bit_lo hN t (by omega))
theorem over_f (c hi lo N : Int) (hN : W2 hi lo N) (hc0 : 0 < c) (hc1 : c < 18446744073709551616) (k : Nat) (hk : 256 < k) : ∃ h l, custodyref01_Over.f k hi lo c = some (h, l, N % c) ∧ W2 h l (N / c) := by
  have hb := hN.bound
  have := over_loop c hi lo N hN hc0 hc1 128 k 0 0 0 0 0 0 (by omega) (by omega) ⟨by omega, by omega, by omega, by omega, rfl⟩ ⟨by omega, by omega, by omega, by omega, rfl⟩ hc0 (by
    rw [Int.zero_mul, Int.zero_add]
    exact (Int.ediv_eq_zero_of_lt hb.1 (by exact hb.2)).symm)
  exact this
theorem dT {q r c m : Int} (h : mdUp q r c m) : decide (mdUp q r c m) = true := decide_eq_true h
theorem dF {q r c m : Int} (h : ¬ mdUp q r c m) : decide (mdUp q r c m) = false := decide_eq_false h
theorem rounds_f (qh ql q r c m : Int) (hq : W2 qh ql q) (hr : 0 ≤ r ∧ r < c) (hc : c < 9223372036854775808) : custodyref01_Rounds.f qh ql r c m = some (decide (mdUp q r c m)) := by
  have wr : W2 0 r r := ⟨by omega, by omega, by omega, by omega, by omega⟩
  have wc : W2 0 c c := ⟨by omega, by omega, by omega, by omega, by omega⟩
  obtain ⟨h, l, e, w⟩ := plus_g wr wr (by omega)
  unfold custodyref01_Rounds.f
  rw [e]
  simp only [Option.bind_some]
  have ht : Int.tmod ql 2 = q % 2 := by
    obtain ⟨a, b, c', d, e'⟩ := hq
    rw [Int.tmod_eq_emod_of_nonneg c']
    omega
  by_cases m1 : m = 1
  · rw [if_pos m1]
    congr 1
    by_cases h : r > 0
    · rw [decide_eq_true h, dT (by unfold mdUp; omega)]
    · rw [decide_eq_false h, dF (by unfold mdUp; omega)]
  · rw [if_neg m1]
    by_cases m2 : m = 2
    · rw [if_pos m2, less_g w wc]
      simp only [Option.bind_some]
      congr 1
      by_cases h : r + r < c
      · rw [decide_eq_true h, dF (by unfold mdUp; omega)]; rfl
      · rw [decide_eq_false h, dT (by unfold mdUp; omega)]; rfl
    · rw [if_neg m2]
      by_cases m3 : m = 3
      · rw [if_pos m3, less_g wc w]
        simp only [Option.bind_some]
        by_cases h1 : c < r + r
        · rw [if_pos (decide_eq_true h1), dT (by unfold mdUp; omega)]
        · rw [if_neg (by simpa using h1), ht]
          obtain ⟨a, b, c', d, e'⟩ := w
          by_cases h2 : r + r = c
          · rw [if_pos (by simp; omega)]
            congr 1
            by_cases h3 : q % 2 = 1
            · rw [h3, dT (by unfold mdUp; omega)]; rfl
            · rw [dF (by unfold mdUp; omega)]; simpa using h3
          · rw [if_neg (by simp; omega), dF (by unfold mdUp; omega)]
      · rw [if_neg m3, dF (by unfold mdUp; omega)]
end Go.Proofs.YtccnfklemalmeaaDoor.Md
