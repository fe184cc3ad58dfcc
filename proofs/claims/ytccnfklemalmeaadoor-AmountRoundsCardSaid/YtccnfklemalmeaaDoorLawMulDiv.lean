/- The law AmountMulDiv by its walk. -/
import Derived.Test.YtccnfklemalmeaaDoorMdPure
set_option linter.unusedVariables false
set_option linter.unusedSimpArgs false
set_option maxRecDepth 100000
namespace Go.Proofs.YtccnfklemalmeaaDoor
open Go.RowKit Go.Proofs.YtccnfklemalmeaaDoor.Md

theorem muldiv_f (a b c m : Int) (ha : I64 a) (hb : I64 b) (hc : I64 c) (hm : I64 m) : Go.Proofs.YtccnfklemalmeaaDoor.PAmountMulDiv.custodyref01_MulDiv.f 300 a b c m = some (mdV a b c m, mdE a b c m) := by
  obtain ⟨ha1, ha2⟩ := ha
  obtain ⟨hb1, hb2⟩ := hb
  obtain ⟨hc1, hc2⟩ := hc
  by_cases hbad : mdBad a b c m
  · obtain ⟨e1, e2⟩ := md_bad hbad
    rw [e1, e2]
    unfold mdBad at hbad
    unfold Go.Proofs.YtccnfklemalmeaaDoor.PAmountMulDiv.custodyref01_MulDiv.f
    simp only [Go.Proofs.YtccnfklemalmeaaDoor.PAmountMulDiv.custodyref01_MulDiv.j0, if_true]
    by_cases h1 : a < 0
    · rw [if_pos h1]
    · by_cases h2 : b < 0
      · rw [if_neg h1, if_pos h2]
      · by_cases h3 : c ≤ 0
        · rw [if_neg h1, if_neg h2, if_pos h3]
        · by_cases h4 : m < 0
          · rw [if_neg h1, if_neg h2, if_neg h3, if_pos h4]
          · rw [if_neg h1, if_neg h2, if_neg h3, if_neg h4, if_pos (decide_eq_true (by omega))]
  · have hn := hbad
    unfold mdBad at hn
    have wa : IntKind.u64.wrap a = a := by rw [IntKind.wrap_u64]; omega
    have wb : IntKind.u64.wrap b = b := by rw [IntKind.wrap_u64]; omega
    have wc : IntKind.u64.wrap c = c := by rw [IntKind.wrap_u64]; omega
    obtain ⟨ph, pl, e1, w1⟩ := times_f a b ⟨by omega, by omega⟩ ⟨by omega, by omega⟩
    obtain ⟨qh, ql, e2, w2⟩ := over_f c ph pl (a * b) w1 (by omega) (by omega) 299 (by omega)
    have hr0 := Int.emod_nonneg (a * b) (show c ≠ 0 by omega)
    have hr1 := Int.emod_lt_of_pos (a * b) (show 0 < c by omega)
    have e3 := rounds_f qh ql (a * b / c) (a * b % c) c m w2 ⟨hr0, hr1⟩ (by omega)
    unfold Go.Proofs.YtccnfklemalmeaaDoor.PAmountMulDiv.custodyref01_MulDiv.f
    simp only [Go.Proofs.YtccnfklemalmeaaDoor.PAmountMulDiv.custodyref01_MulDiv.j0]
    rw [if_neg (by omega), if_neg (by omega), if_neg (by omega), if_neg (by omega), if_neg (by simpa using (show m ≤ 3 by omega)), wa, wb, wc, e1]
    simp only [Option.bind_some]
    rw [e2]
    simp only [Option.bind_some]
    rw [e3]
    simp only [Option.bind_some]
    have fin : ∀ h l Q, W2 h l Q → Q = mdQ a b c m → (if h > 0 then some (0, 9) else if l > 9223372036854775807 then some (0, 9) else some (wrap64 l, 0)) = some (mdV a b c m, mdE a b c m) := by
      intro h l Q hW hQ
      obtain ⟨b0, b1, b2, b3, b4⟩ := hW
      by_cases g : 9223372036854775807 < mdQ a b c m
      · obtain ⟨e1, e2⟩ := md_over hbad g
        rw [e1, e2]
        by_cases g1 : h > 0
        · rw [if_pos g1]
        · rw [if_neg g1, if_pos (by omega)]
      · obtain ⟨e1, e2⟩ := md_good hbad g
        rw [e1, e2, if_neg (by omega), if_neg (by omega)]
        congr 2
        unfold wrap64
        omega
    by_cases hu : mdUp (a * b / c) (a * b % c) c m
    · rw [if_pos (decide_eq_true hu)]
      have hb2' := w2.bound
      have hle : a * b / c ≤ a * b := Int.ediv_le_self _ (Int.mul_nonneg (by omega) (by omega))
      have hab : a * b ≤ 9223372036854775807 * 9223372036854775807 := Int.mul_le_mul ha2 hb2 (by omega) (by omega)
      obtain ⟨h, l, e4, w4⟩ := plus_g w2 (show W2 0 1 1 from ⟨by omega, by omega, by omega, by omega, by omega⟩) (by omega)
      rw [e4]
      simp only [Option.bind_some]
      exact fin h l _ w4 (by unfold mdQ; rw [if_pos hu])
    · rw [if_neg (by simpa using hu)]
      exact fin qh ql _ w2 (by unfold mdQ; rw [if_neg hu])
theorem refMulDiv_any (a b c m : Int) (ha : I64 a) (hb : I64 b) (hc : I64 c) (hm : I64 m) (w : World) :
    Calls Tryd.prog 37 #[.int .i64 a, .int .i64 b, .int .i64 c, .int .i64 m] w fun e w' => e = .returned (.tuple #[.int .i64 (mdV a b c m), .int .i64 (mdE a b c m)]) ∧ Below w.heap.size w w' :=
  Go.Proofs.YtccnfklemalmeaaDoor.PAmountMulDiv.custodyref01_MulDiv.calls 300 a b c m _ _ w (muldiv_f a b c m ha hb hc hm)
theorem rowlaw_AmountMulDiv (w : World) (hg : ErrT w) (a b c m : Int) (ha : I64 a) (hb : I64 b) (hc : I64 c) (hm : I64 m) :
    Calls Tryd.prog 7 #[.int .i64 a, .int .i64 b, .int .i64 c, .int .i64 m] w fun e w' => e = .returned (.bool true) ∧ Below w.heap.size w w' := by
  have HG := Lib.hid hg
  clear hg
  have q1 : (mdV a b c m == mdV a b c m) = true := beq_self_eq_true _
  go_enter Tryd.func7, Tryd.ntmps7
  go_wp2_with (first | (go_at_call 37; refine (refMulDiv_any a b c m ha hb hc hm _).mono ?_; rintro e w1 ⟨rfl, hb1⟩) | (go_at_call 38; refine (mulDiv_any a b c m ha hb hc hm _).mono ?_; rintro e w2 ⟨E1, rfl, ok1, n1, hb2⟩; have N1 := Lib.hid n1; clear n1) | (go_at_call 15; refine (plain_eq E1 ok1 _ N1.out _ (HG.out.below (bl_then hb1 hb2))).mono ?_; rintro e w3 ⟨rfl, hb3⟩))
  go_ret
  exact ⟨rfl, bl_then (bl_then hb1 hb2) hb3⟩
end Go.Proofs.YtccnfklemalmeaaDoor
