/- bits.Div64 by its contract: the quotient and the rest of two words over one. -/
import Derived.Test.YtccnfklemalmeaaShelf
import Derived.Test.YtccnfklemalmeaaShBase
import Derived.Deep.Cut
import Derived.Deep.CutBlock
import Derived.Deep.DeepCutAuto
import Derived.Test.YtccnfklemalmeaaDivPure
set_option linter.unusedVariables false
set_option linter.unusedSimpArgs false
set_option maxRecDepth 100000
namespace Go.Proofs.Ytccnfklemalmeaa
open Go.RowKit

theorem div64_low (lo y : Int) (h0 : 0 ≤ lo) (h1 : lo < 18446744073709551616) (hy0 : 0 < y) (hy1 : y < 18446744073709551616) (w : World) :
    Calls Try.prog 19 #[.int .u64 0, .int .u64 lo, .int .u64 y] w fun e w' => e = .returned (.tuple #[.int .u64 (lo / y), .int .u64 (lo % y)]) ∧ Below w.heap.size w w' := by
  have hz : ¬ y = 0 := by omega
  have e1 : IntKind.u64.wrap (lo / y) = lo / y := by
    have a := Int.ediv_nonneg h0 (show 0 ≤ y by omega)
    have b := Int.ediv_le_self y h0
    rw [IntKind.wrap_u64]; omega
  go_enter Try.func19, Try.ntmps19
  go_wp2
  go_region
  all_goals go_wp2
  all_goals (go_ret2; exact ⟨rfl, by repeat (first | exact bl_refl _ | apply bl_alloc | apply bl_drew)⟩)
/-- The quotient of a digit stands in a slot. -/
def QIs (n : Int) (v : Value) : Prop := v = .int .u64 n
def DRel (Y U d : Int) (v u : Value) : Prop := ∃ q r : Int, v = .int .u64 q ∧ u = .int .u64 r ∧ DInv Y U d q r
theorem wrap_in {n : Int} (h0 : 0 ≤ n) (h1 : n < 18446744073709551616) : IntKind.u64.wrap n = n := by rw [IntKind.wrap_u64]; omega
theorem wrap_quo {U a : Int} (h0 : 0 ≤ U) (h1 : U < 18446744073709551616) (ha : 0 ≤ a) : IntKind.u64.wrap (U.tdiv a) = U / a := by
  rw [Int.tdiv_eq_ediv_of_nonneg h0]
  exact wrap_in (Int.ediv_nonneg h0 ha) (by have := Int.ediv_le_self a h0; omega)
theorem Digit.quo {Y U d : Int} (h : Digit Y U d) : IntKind.u64.wrap (U.tdiv (Y / 4294967296)) = U / (Y / 4294967296) := wrap_quo h.u0 (by have := h.u1; have := h.y1; omega) (by have := h.y0; omega)
theorem start_wraps {Y U d : Int} (h : Digit Y U d) : DRel Y U d (.int .u64 (U / (Y / 4294967296))) (.int .u64 (IntKind.u64.wrap (U - IntKind.u64.wrap (U / (Y / 4294967296) * (Y / 4294967296))))) := by
  have i := dstart h
  obtain ⟨y0, y1, u0, u1, d0, d1⟩ := h
  have h2 := i.r0
  have h3 := i.r1
  have h4 := i.q0
  have h5 : 0 ≤ U / (Y / 4294967296) * (Y / 4294967296) := Int.mul_nonneg h4 (by omega)
  refine ⟨_, _, rfl, ?_, i⟩
  generalize U / (Y / 4294967296) * (Y / 4294967296) = m at *
  rw [wrap_in (n := m) (by omega) (by omega), wrap_in (by omega) (by omega)]
theorem rest_wraps {Y U d q : Int} (h : Digit Y U d) (hq : q = (U * 4294967296 + d) / Y) : IntKind.u64.wrap (IntKind.u64.wrap (IntKind.u64.wrap (U * 4294967296) + d) - IntKind.u64.wrap (q * Y)) = (U * 4294967296 + d) % Y := by
  have hr := digit_rest h
  obtain ⟨y0, y1, u0, u1, d0, d1⟩ := h
  subst hq
  obtain ⟨e, a, b⟩ := hr
  simp only [IntKind.wrap_u64]
  generalize (U * 4294967296 + d) / Y * Y = m at *
  generalize (U * 4294967296 + d) % Y = r at *
  omega

theorem lift_words (hi lo y Y : Int) (s : Nat) (hs : s ≤ 63) (h0 : 0 ≤ lo) (h1 : lo < 18446744073709551616) (hy : hi < y) (hh : 0 ≤ hi) (hY : y * 2 ^ s = Y) (hY1 : Y < 18446744073709551616) :
    ∃ U W : Int, bits .or .u64 (IntKind.u64.wrap (hi * 2 ^ s)) (lo / 2 ^ (64 - s)) = U ∧ IntKind.u64.wrap (lo * 2 ^ s) = W ∧ 0 ≤ U ∧ U < Y ∧ 0 ≤ W ∧ W < 18446744073709551616 ∧ U * 18446744073709551616 + W = (hi * 18446744073709551616 + lo) * 2 ^ s := by
  have hP : (0 : Int) < 2 ^ s := Int.pow_pos (by omega)
  have hR : (0 : Int) < 2 ^ (64 - s) := Int.pow_pos (by omega)
  have hPR : (2 : Int) ^ s * 2 ^ (64 - s) = 18446744073709551616 := by rw [← Int.pow_add, show s + (64 - s) = 64 by omega]; rfl
  have a1 : hi * 2 ^ s ≤ (y - 1) * 2 ^ s := Int.mul_le_mul_of_nonneg_right (by omega) (by omega)
  have a2 : 0 ≤ hi * 2 ^ s := Int.mul_nonneg hh (by omega)
  rw [Int.sub_mul, Int.one_mul, hY] at a1
  have b0 : 0 ≤ lo / 2 ^ (64 - s) := Int.ediv_nonneg h0 (by omega)
  have b1 : lo / 2 ^ (64 - s) < 2 ^ s := Int.ediv_lt_of_lt_mul hR (by rw [hPR]; exact h1)
  have e1 : IntKind.u64.wrap (hi * 2 ^ s) = hi * 2 ^ s := wrap_in a2 (by omega)
  have e2 : bits .or .u64 (hi * 2 ^ s) (lo / 2 ^ (64 - s)) = hi * 2 ^ s + lo / 2 ^ (64 - s) := by
    obtain ⟨H, rfl⟩ := Int.eq_ofNat_of_zero_le hh
    obtain ⟨Z, hZ⟩ := Int.eq_ofNat_of_zero_le b0
    have e : ((H * 2 ^ s : Nat) : Int) = (H : Int) * 2 ^ s := by rw [Int.natCast_mul, Int.natCast_pow]; rfl
    have e' : ((2 ^ s : Nat) : Int) = 2 ^ s := by rw [Int.natCast_pow]; rfl
    rw [hZ, ← e, u64_or_nat _ _ (by omega) (by omega)]
    have hlt : Z < 2 ^ s := by omega
    rw [Nat.mul_comm, ← Nat.two_pow_add_eq_or_of_lt hlt]
    omega
  refine ⟨_, _, by rw [e1, e2], rfl, by omega, by omega, by rw [IntKind.wrap_u64]; omega, by rw [IntKind.wrap_u64]; omega, ?_⟩
  rw [IntKind.wrap_u64]
  have hd := Int.mul_ediv_add_emod lo (2 ^ (64 - s))
  have hm0 := Int.emod_nonneg lo (show (2 : Int) ^ (64 - s) ≠ 0 by omega)
  have hm1 := Int.emod_lt_of_pos lo hR
  have f : lo * 2 ^ s = 18446744073709551616 * (lo / 2 ^ (64 - s)) + lo % 2 ^ (64 - s) * 2 ^ s := by
    have : lo * 2 ^ s = (2 ^ (64 - s) * (lo / 2 ^ (64 - s)) + lo % 2 ^ (64 - s)) * 2 ^ s := by rw [hd]
    rw [this, Int.add_mul, Int.mul_right_comm, Int.mul_comm (2 ^ (64 - s)), hPR]
  have g0 : 0 ≤ lo % 2 ^ (64 - s) * 2 ^ s := Int.mul_nonneg hm0 (by omega)
  have g1 : lo % 2 ^ (64 - s) * 2 ^ s < 18446744073709551616 := by
    have := Int.mul_lt_mul_of_pos_right hm1 hP
    rw [Int.mul_comm (2 ^ (64 - s)), hPR] at this
    exact this
  have f2 : (hi * 18446744073709551616 + lo) * 2 ^ s = hi * 2 ^ s * 18446744073709551616 + lo * 2 ^ s := by rw [Int.add_mul, Int.mul_right_comm]
  rw [f2, f]
  generalize lo % 2 ^ (64 - s) * 2 ^ s = m at *
  generalize hi * 2 ^ s = h at *
  generalize lo / 2 ^ (64 - s) = z at *
  omega
theorem div64_high (hi lo y : Int) (h0 : 0 ≤ lo) (h1 : lo < 18446744073709551616) (hy0 : hi < y) (hy1 : y < 18446744073709551616) (hh : 0 < hi) (w : World) :
    Calls Try.prog 19 #[.int .u64 hi, .int .u64 lo, .int .u64 y] w fun e w' => e = .returned (.tuple #[.int .u64 ((hi * 18446744073709551616 + lo) / y), .int .u64 ((hi * 18446744073709551616 + lo) % y)]) ∧ Below w.heap.size w w' := by
  have hyz : (y == 0) = false := by simp; omega
  have hyl : ¬ y ≤ hi := by omega
  have hhz : (hi == 0) = false := by simp; omega
  obtain ⟨s, hs, hlb, hs1, hs2⟩ := norm_shift y (by omega) hy1
  have hlz : ∀ w, Calls Try.prog 21 #[.int .u64 y] w fun e w' => e = .returned (.int .i64 (s : Int)) ∧ w' = w := fun w => by
    rw [← hlb]
    exact Go.Proofs.Try.bits_LeadingZeros64 y w (by omega) (by omega)
  clear hlb
  have H1 := Lib.hid h1
  have H2 := Lib.hid hy1
  have H3 := Lib.hid hs1
  have H4 := Lib.hid hs2
  clear h1 hy1 hs1 hs2
  go_enter Try.func19, Try.ntmps19
  go_upto_region 9 with (go_at_call 21; refine (hlz _).mono ?_; rintro e w1 ⟨rfl, rfl⟩)
  have eY : IntKind.u64.wrap (y * 2 ^ s) = y * 2 ^ s := wrap_in (by have := H3.out; omega) H4.out
  rw [eY]
  generalize hY : y * 2 ^ s = Y at H3 H4
  have HY := Lib.hid hY
  clear hY eY
  go_upto_region 15 with (fail)
  rw [and_low32 Y (by have := H3.out; omega) H4.out]
  obtain ⟨U, W, eU, eW, hU0, hU1, hW0, hW1, hUW⟩ : ∃ U W : Int, bits .or .u64 (IntKind.u64.wrap (hi * 2 ^ s)) (lo / 2 ^ (64 - s)) = U ∧ IntKind.u64.wrap (lo * 2 ^ s) = W ∧ 0 ≤ U ∧ U < Y ∧ 0 ≤ W ∧ W < 18446744073709551616 ∧ U * 18446744073709551616 + W = (hi * 18446744073709551616 + lo) * 2 ^ s := lift_words hi lo y Y s hs h0 H1.out hy0 (by omega) HY.out H4.out
  rw [eU, eW, and_low32 W hW0 hW1]
  have D1 : Digit Y U (W / 4294967296) := ⟨H3.out, H4.out, hU0, hU1, by omega, by omega⟩
  have HUW := Lib.hid hUW
  have HW1 := Lib.hid hW1
  clear eU eW hUW hW1 hlz
  have a0 : ¬ Y / 4294967296 = 0 := by have := H3.out; omega
  go_upto_block 0 with (fail)
  rw [D1.quo]
  have HS := Lib.hid (start_wraps D1)
  go_cut [15] (fun v wc => QIs ((U * 4294967296 + W / 4294967296) / Y) v ∧ wc = w1)
  case first =>
    go_wp2_with (fail)
    go_loop [15, 16] (fun v u => DRel Y U (W / 4294967296) v u) (fun v _ => (intOf v).toNat)
    case atStart => exact HS.out
    case round =>
      obtain ⟨q, r, rfl, rfl, I⟩ := hrel
      have hb := dbounds D1 I
      have e1 : IntKind.u64.wrap (q * (Y % 4294967296)) = q * (Y % 4294967296) := wrap_in hb.1 hb.2
      have e2 : IntKind.u64.wrap (4294967296 * r) = 4294967296 * r := wrap_in (by have := I.r0; omega) (by have := I.r1; omega)
      have e3 : IntKind.u64.wrap (4294967296 * r + W / 4294967296) = 4294967296 * r + W / 4294967296 := wrap_in (by have := I.r0; have := D1.d0; omega) (by have := I.r1; have := D1.d1; omega)
      have e5 : IntKind.u64.wrap (r + Y / 4294967296) = r + Y / 4294967296 := wrap_in (by have := I.r0; have := D1.y0; omega) (by have := I.r1; have := D1.y1; omega)
      have HI := Lib.hid I
      have q0 := I.q0
      have q1 := I.hi
      clear hb I
      by_cases c1 : 4294967296 ≤ q
      · have e4 : IntKind.u64.wrap (q - 1) = q - 1 := wrap_in (by omega) (by omega)
        by_cases c3 : 4294967296 ≤ r + Y / 4294967296
        · go_wp2_with (fail)
          go_meet
          exact ⟨congrArg _ (dbreak D1 HI.out (.inl c1) c3), rfl⟩
        · have HD := Lib.hid (dnext D1 HI.out (.inl c1) (by omega))
          go_wp2_with (fail)
          go_round
          case rel => exact ⟨_, _, rfl, rfl, HD.out⟩
          case measure => simp [intOf]; omega
      · by_cases c2 : 4294967296 * r + W / 4294967296 < q * (Y % 4294967296)
        · have hp := dless D1 HI.out (.inr c2)
          have hp0 := (digit_lt D1).1
          have q2 : 1 ≤ q := by omega
          clear hp hp0
          have e4 : IntKind.u64.wrap (q - 1) = q - 1 := wrap_in (by omega) (by omega)
          by_cases c3 : 4294967296 ≤ r + Y / 4294967296
          · have HC := Lib.hid (dbreak D1 HI.out (.inr c2) c3)
            go_wp2_with (fail)
            go_meet
            exact ⟨congrArg _ HC.out, rfl⟩
          · have HD := Lib.hid (dnext D1 HI.out (.inr c2) (by omega))
            go_wp2_with (fail)
            go_round
            case rel => exact ⟨_, _, rfl, rfl, HD.out⟩
            case measure => simp [intOf]; omega
        · have HC := Lib.hid (dfound D1 HI.out (by omega))
          go_wp2_with (fail)
          go_meet
          exact ⟨congrArg _ HC.out, rfl⟩
  case rest =>
    obtain ⟨rfl, rfl⟩ := hcut
    go_upto_block 2 with (fail)
    rw [rest_wraps D1 rfl]
    have hq1 := digit_lt D1
    have hv := digit_rest D1
    have HT := Lib.hid (two_digits (Y := Y) H3.out hU0 hU1 hW0 HW1.out)
    generalize (U * 4294967296 + W / 4294967296) / Y = Q1 at hq1 hv HT
    generalize (U * 4294967296 + W / 4294967296) % Y = V at hv HT
    have D2 : Digit Y V (W % 4294967296) := ⟨H3.out, H4.out, hv.2.1, hv.2.2, by omega, by omega⟩
    clear hv HS
    rw [D2.quo]
    have HS2 := Lib.hid (start_wraps D2)
    go_cut [18] (fun v wd => QIs ((V * 4294967296 + W % 4294967296) / Y) v ∧ wd = wc)
    case first =>
      go_wp2_with (fail)
      go_loop [18, 16] (fun v u => DRel Y V (W % 4294967296) v u) (fun v _ => (intOf v).toNat)
      case atStart => exact HS2.out
      case round =>
        obtain ⟨q, r, rfl, rfl, I⟩ := hrel
        have hb := dbounds D2 I
        have e1 : IntKind.u64.wrap (q * (Y % 4294967296)) = q * (Y % 4294967296) := wrap_in hb.1 hb.2
        have e2 : IntKind.u64.wrap (4294967296 * r) = 4294967296 * r := wrap_in (by have := I.r0; omega) (by have := I.r1; omega)
        have e3 : IntKind.u64.wrap (4294967296 * r + W % 4294967296) = 4294967296 * r + W % 4294967296 := wrap_in (by have := I.r0; have := D2.d0; omega) (by have := I.r1; have := D2.d1; omega)
        have e5 : IntKind.u64.wrap (r + Y / 4294967296) = r + Y / 4294967296 := wrap_in (by have := I.r0; have := D2.y0; omega) (by have := I.r1; have := D2.y1; omega)
        have HI := Lib.hid I
        have q0 := I.q0
        have q1 := I.hi
        clear hb I
        by_cases c1 : 4294967296 ≤ q
        · have e4 : IntKind.u64.wrap (q - 1) = q - 1 := wrap_in (by omega) (by omega)
          by_cases c3 : 4294967296 ≤ r + Y / 4294967296
          · go_wp2_with (fail)
            go_meet
            exact ⟨congrArg _ (dbreak D2 HI.out (.inl c1) c3), rfl⟩
          · have HD := Lib.hid (dnext D2 HI.out (.inl c1) (by omega))
            go_wp2_with (fail)
            go_round
            case rel => exact ⟨_, _, rfl, rfl, HD.out⟩
            case measure => simp [intOf]; omega
        · by_cases c2 : 4294967296 * r + W % 4294967296 < q * (Y % 4294967296)
          · have hp := dless D2 HI.out (.inr c2)
            have hp0 := (digit_lt D2).1
            have q2 : 1 ≤ q := by omega
            clear hp hp0
            have e4 : IntKind.u64.wrap (q - 1) = q - 1 := wrap_in (by omega) (by omega)
            by_cases c3 : 4294967296 ≤ r + Y / 4294967296
            · have HC := Lib.hid (dbreak D2 HI.out (.inr c2) c3)
              go_wp2_with (fail)
              go_meet
              exact ⟨congrArg _ HC.out, rfl⟩
            · have HD := Lib.hid (dnext D2 HI.out (.inr c2) (by omega))
              go_wp2_with (fail)
              go_round
              case rel => exact ⟨_, _, rfl, rfl, HD.out⟩
              case measure => simp [intOf]; omega
          · have HC := Lib.hid (dfound D2 HI.out (by omega))
            go_wp2_with (fail)
            go_meet
            exact ⟨congrArg _ HC.out, rfl⟩
    case rest =>
      obtain ⟨rfl, rfl⟩ := hcut
      go_wp2
      rw [rest_wraps D2 rfl]
      have hq0 := digit_lt D2
      obtain ⟨t1, t2⟩ := HT.out
      have hl := lifted_div (hi * 18446744073709551616 + lo) y (2 ^ s) (Int.pow_pos (by omega))
      rw [← HUW.out, HY.out] at hl
      obtain ⟨l1, l2⟩ := hl
      rw [wrap_in (n := Q1 * 4294967296 + _) (by omega) (by omega), ← t1, l1, ← t2, l2, Int.mul_ediv_cancel _ (Int.ne_of_gt (Int.pow_pos (by omega)))]
      go_ret2
      exact ⟨rfl, bl_refl _⟩
end Go.Proofs.Ytccnfklemalmeaa
