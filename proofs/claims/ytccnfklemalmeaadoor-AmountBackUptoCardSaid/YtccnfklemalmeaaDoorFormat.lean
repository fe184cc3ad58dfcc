/- amount.Format and the document's Format by contracts. -/
import Derived.Test.YtccnfklemalmeaaDoorTextPure
import Derived.Test.YtccnfklemalmeaaDoorPlain
import Derived.Test.YtccnfklemalmeaaDoorRowWords
import Derived.Lib.Hide
import Derived.Deep.QuietTactic
import Derived.BigQuiet
import Derived.IntWalk
set_option linter.unusedVariables false
set_option linter.unusedSimpArgs false
set_option maxRecDepth 100000
namespace Go.Proofs.YtccnfklemalmeaaDoor
open Go.RowKit Go.Proofs.YtccnfklemalmeaaDoor.Tp Go.Proofs.YtccnfklemalmeaaDoor.PAmountTexts Go.Proofs.YtccnfklemalmeaaDoorW.PrintWords

theorem ten19 : (10 : Nat) ^ 19 = 10000000000000000000 := by decide
/-- A number's text: so many digits behind the point. -/
def fmtV (n s : Nat) : ByteArray := if s = 0 then strOfNums (revD n 0 1).reverse else strOfNums (revD (n / 10 ^ s) 0 1).reverse ++ ⟨#[46]⟩ ++ strOfNums (padD s n).reverse
def fmtBad (n s : Int) : Prop := n < 0 ∨ s < 0 ∨ 18 < s
theorem revD_len19 (n c least : Nat) (hn : n ≤ 9223372036854775807) : (revD n c least).length ≤ 19 + (least - c) := revD_len 19 n c least (by rw [ten19]; omega)
theorem refDigits_any (n least : Nat) (hn : n ≤ 9223372036854775807) (hl : least ≤ 100) (w : World) : Calls Tryd.prog 70 #[.int .i64 n, .int .i64 least] w fun e w' => e = .returned (.string (strOfNums (revD n 0 least).reverse)) ∧ Below w.heap.size w w' := by
  refine custodyref01_Digits.calls 300 n least _ w ?_
  unfold custodyref01_Digits.f
  have h := refDigits (19 + least) n 0 least 300 ⟨#[]⟩ hn hl rfl (by omega) (by have := revD_len19 n 0 least hn; omega) (by omega)
  rw [h]
  congr 1
  apply ByteArray.ext
  simp [ByteArray.data_append]
theorem refTen_any (s : Nat) (hs : s ≤ 18) (w : World) : Calls Tryd.prog 71 #[.int .i64 s] w fun e w' => e = .returned (.int .i64 ((10 ^ s : Nat) : Int)) ∧ Below w.heap.size w w' := by
  refine (custodyref01_Ten.calls 30 s _ w (refTen s 0 s 30 (by omega) hs (by omega))).mono fun e w' ⟨he, nd, hw⟩ => ⟨he, ?_⟩
  rw [hw]
  exact bl_drewN (bl_refl w) nd
theorem amDigits_any (n least : Nat) (hn : n ≤ 9223372036854775807) (hl : least ≤ 100) (w : World) : Calls Tryd.prog 73 #[.int .i64 n, .int .i64 least] w fun e w' => e = .returned (.string (strOfNums (revD n 0 least).reverse)) ∧ Below w.heap.size w w' := by
  refine amount_digits.calls 400 n least _ w ?_
  unfold amount_digits.f
  have h := amDigits (19 + least) n least 400 [] hn hl (by simp; omega) (by have := revD_len19 n 0 least hn; simpa using this) (by simp; omega)
  rw [h]
  rfl
theorem pow_pos10 (s : Nat) : 0 < 10 ^ s := Nat.pow_pos (by omega)
theorem pow18 (s : Nat) (hs : s ≤ 18) : 10 ^ s ≤ 1000000000000000000 := by
  have := Nat.pow_le_pow_right (n := 10) (by omega) hs
  have e : (10 : Nat) ^ 18 = 1000000000000000000 := by decide
  omega
theorem ret2_s {a b : ByteArray} {v : Value} (h : a = b) : Ending.returned (.tuple #[.string a, v]) = .returned (.tuple #[.string b, v]) := by rw [h]
theorem refFormat_any (n s : Int) (hn : I64 n) (hs : I64 s) (w : World) : Calls Tryd.prog 44 #[.int .i64 n, .int .i64 s] w fun e w' =>
    (fmtBad n s ∧ e = .returned (.tuple #[.string ⟨#[]⟩, .int .i64 1]) ∨ ¬ fmtBad n s ∧ e = .returned (.tuple #[.string (fmtV n.toNat s.toNat), .int .i64 0])) ∧ Below w.heap.size w w' := by
  obtain ⟨hn1, hn2⟩ := hn
  obtain ⟨hs1, hs2⟩ := hs
  by_cases hbad : fmtBad n s
  · have HB := Lib.hid hbad
    unfold fmtBad at hbad
    by_cases h1 : n < 0
    · clear hbad
      go_enter Tryd.func44, Tryd.ntmps44
      go_wp2
      go_ret2
      exact ⟨.inl ⟨HB.out, rfl⟩, bl_refl _⟩
    · by_cases h2 : s < 0
      · clear hbad
        go_enter Tryd.func44, Tryd.ntmps44
        go_wp2
        go_ret2
        exact ⟨.inl ⟨HB.out, rfl⟩, bl_refl _⟩
      · have h3 : 18 < s := by omega
        clear hbad
        go_enter Tryd.func44, Tryd.ntmps44
        go_wp2
        go_ret2
        exact ⟨.inl ⟨HB.out, rfl⟩, bl_refl _⟩
  · have HB := Lib.hid hbad
    unfold fmtBad at hbad
    obtain ⟨m, rfl⟩ := Int.eq_ofNat_of_zero_le (show 0 ≤ n by omega)
    obtain ⟨t, rfl⟩ := Int.eq_ofNat_of_zero_le (show 0 ≤ s by omega)
    have ht : t ≤ 18 := by omega
    have hm : m ≤ 9223372036854775807 := by omega
    have HT := Lib.hid (fun w => refTen_any t ht w)
    have hp := pow_pos10 t
    have hp2 := pow18 t ht
    have hmt : m / 10 ^ t ≤ 9223372036854775807 := Nat.le_trans (Nat.div_le_self _ _) hm
    have HD1 := Lib.hid (fun w => refDigits_any (m / 10 ^ t) 1 hmt (by omega) w)
    have HD2 := Lib.hid (fun w => refDigits_any (m % 10 ^ t) t (Nat.le_trans (Nat.mod_le _ _) hm) (by omega) w)
    have hV : Hid (fmtV (Int.ofNat m).toNat (Int.ofNat t).toNat = if t = 0 then strOfNums (revD (m / 10 ^ t) 0 1).reverse else strOfNums (revD (m / 10 ^ t) 0 1).reverse ++ ⟨#[46]⟩ ++ strOfNums (revD (m % 10 ^ t) 0 t).reverse) := Lib.hid (by
      show fmtV m t = _
      unfold fmtV
      by_cases h0 : t = 0
      · rw [if_pos h0, if_pos h0, h0]; simp
      · rw [if_neg h0, if_neg h0]
        have := revD_pad t (m % 10 ^ t) 0 (Nat.mod_lt _ hp)
        rw [Nat.zero_add] at this
        rw [this, padD_mod])
    have hz1 : (strOfNums (revD (m / 10 ^ t) 0 1).reverse).size ≤ 100 := by rw [strOfNums_size, List.length_reverse]; have := revD_len19 (m / 10 ^ t) 0 1 hmt; omega
    have hz2 : (strOfNums (revD (m % 10 ^ t) 0 t).reverse).size ≤ 100 := by rw [strOfNums_size, List.length_reverse]; have := revD_len19 (m % 10 ^ t) 0 t (Nat.le_trans (Nat.mod_le _ _) hm); omega
    generalize strOfNums (revD (m / 10 ^ t) 0 1).reverse = x1 at HD1 hV hz1
    generalize strOfNums (revD (m % 10 ^ t) 0 t).reverse = x2 at HD2 hV hz2
    have hq : (m : Int) / ((10 ^ t : Nat) : Int) = ((m / 10 ^ t : Nat) : Int) := rfl
    have hr : (m : Int) % ((10 ^ t : Nat) : Int) = ((m % 10 ^ t : Nat) : Int) := rfl
    have hrm : m % 10 ^ t ≤ 9223372036854775807 := Nat.le_trans (Nat.mod_le _ _) hm
    generalize 10 ^ t = p at *
    generalize m / p = q at *
    generalize m % p = r at *
    have hq2 : wrap64 ((m : Int).tdiv (p : Int)) = (q : Int) := by rw [Int.tdiv_eq_ediv_of_nonneg (by omega), hq]; exact w64 (by omega) (by omega)
    have hr2 : (m : Int).tmod (p : Int) = (r : Int) := by rw [Int.tmod_eq_emod_of_nonneg (by omega), hr]
    have hp0 : ((p : Int) == 0) = false := by simp; omega
    by_cases h0 : t = 0
    · subst h0
      rw [if_pos rfl] at hV
      clear HD2 hbad
      go_enter Tryd.func44, Tryd.ntmps44
      go_wp2_with fail
      refine (HT.out _).mono ?_
      rintro e w1 ⟨rfl, hb1⟩
      go_wp2_with fail
      refine (HD1.out _).mono ?_
      rintro e w2 ⟨rfl, hb2⟩
      go_wp2
      go_ret2
      exact ⟨.inr ⟨HB.out, ret2_s hV.out.symm⟩, bl_then hb1 hb2⟩
    · rw [if_neg h0] at hV
      have ht0 : 0 < t := by omega
      clear hbad
      go_enter Tryd.func44, Tryd.ntmps44
      go_wp2_with fail
      refine (HT.out _).mono ?_
      rintro e w1 ⟨rfl, hb1⟩
      go_wp2_with fail
      refine (HD1.out _).mono ?_
      rintro e w2 ⟨rfl, hb2⟩
      go_wp2_with fail
      refine (HT.out _).mono ?_
      rintro e w3 ⟨rfl, hb3⟩
      go_wp2_with fail
      refine (HD2.out _).mono ?_
      rintro e w4 ⟨rfl, hb4⟩
      go_wp2
      go_ret2
      exact ⟨.inr ⟨HB.out, ret2_s hV.out.symm⟩, bl_then (bl_then (bl_then hb1 hb2) hb3) hb4⟩
theorem strOf_take (xs ys : List Int) : (strOfNums (xs ++ ys)).extract 0 xs.length = strOfNums xs := by
  apply ByteArray.ext
  apply Array.ext'
  simp [strOfNums, ByteArray.data_extract, List.take_append_of_le_length]
theorem strOf_drop (xs ys : List Int) : (strOfNums (xs ++ ys)).extract xs.length (strOfNums (xs ++ ys)).size = strOfNums ys := by
  apply ByteArray.ext
  apply Array.ext'
  rw [strOfNums_size]
  simp [strOfNums, ByteArray.data_extract, List.take_of_length_le, List.drop_append]
theorem amFormat_any (n s : Int) (hn : I64 n) (hs : I64 s) (w : World) : Calls Tryd.prog 46 #[.int .i64 n, .int .i64 s] w fun e w' =>
    (fmtBad n s ∧ e = .returned (.tuple #[.string ⟨#[]⟩, (GErr.no 1).val]) ∨ ¬ fmtBad n s ∧ e = .returned (.tuple #[.string (fmtV n.toNat s.toNat), GErr.nil.val])) ∧ Below w.heap.size w w' := by
  obtain ⟨hn1, hn2⟩ := hn
  obtain ⟨hs1, hs2⟩ := hs
  by_cases hbad : fmtBad n s
  · have HB := Lib.hid hbad
    unfold fmtBad at hbad
    by_cases h1 : n < 0
    · clear hbad
      go_enter Tryd.func46, Tryd.ntmps46
      go_wp2
      go_ret2
      exact ⟨.inl ⟨HB.out, rfl⟩, bl_refl _⟩
    · by_cases h2 : s < 0
      · clear hbad
        go_enter Tryd.func46, Tryd.ntmps46
        go_wp2
        go_ret2
        exact ⟨.inl ⟨HB.out, rfl⟩, bl_refl _⟩
      · have h3 : 18 < s := by omega
        clear hbad
        go_enter Tryd.func46, Tryd.ntmps46
        go_wp2
        go_ret2
        exact ⟨.inl ⟨HB.out, rfl⟩, bl_refl _⟩
  · have HB := Lib.hid hbad
    unfold fmtBad at hbad
    obtain ⟨m, rfl⟩ := Int.eq_ofNat_of_zero_le (show 0 ≤ n by omega)
    obtain ⟨t, rfl⟩ := Int.eq_ofNat_of_zero_le (show 0 ≤ s by omega)
    have ht : t ≤ 18 := by omega
    have hm : m ≤ 9223372036854775807 := by omega
    have hD0 := fun w => amDigits_any m (t + 1) hm (by omega) w
    have hsp := revD_split t m 0
    rw [Nat.zero_add] at hsp
    rw [hsp, List.reverse_append] at hD0
    have hA : ((revD (m / 10 ^ t) 0 1).reverse).length ≤ 100 := by rw [List.length_reverse]; have := revD_len19 (m / 10 ^ t) 0 1 (Nat.le_trans (Nat.div_le_self _ _) hm); omega
    have hB : ((padD t m).reverse).length = t := by rw [List.length_reverse, padD_len]
    have hV : Hid (fmtV (Int.ofNat m).toNat (Int.ofNat t).toNat = if t = 0 then strOfNums (revD m 0 1).reverse else strOfNums (revD (m / 10 ^ t) 0 1).reverse ++ ⟨#[46]⟩ ++ strOfNums (padD t m).reverse) := Lib.hid rfl
    by_cases h0 : t = 0
    · subst h0
      rw [if_pos rfl] at hV
      simp only [padD, List.reverse_nil, List.append_nil, Nat.pow_zero, Nat.div_one] at hD0
      have HD := Lib.hid hD0
      clear hD0 hsp hB hbad
      go_enter Tryd.func46, Tryd.ntmps46
      go_wp2_with fail
      refine (HD.out _).mono ?_
      rintro e w1 ⟨rfl, hb1⟩
      go_wp2
      go_ret2
      exact ⟨.inr ⟨HB.out, ret2_s hV.out.symm⟩, hb1⟩
    · rw [if_neg h0] at hV
      have ht0 : ((t : Int) == 0) = false := by simp; omega
      generalize (revD (m / 10 ^ t) 0 1).reverse = xa at hD0 hV hA
      generalize (padD t m).reverse = xb at hD0 hV hB
      have hx1 := Lib.hid (strOf_take xa xb)
      have hx2 := Lib.hid (strOf_drop xa xb)
      have hsz : (strOfNums (xa ++ xb)).size = xa.length + t := by rw [strOfNums_size, List.length_append, hB]
      have hz1 : (strOfNums xa).size = xa.length := strOfNums_size _
      have hz2 : (strOfNums xb).size = t := by rw [strOfNums_size, hB]
      have HD := Lib.hid hD0
      clear hD0 hsp hbad hB
      generalize xa.length = la at *
      generalize strOfNums (xa ++ xb) = x at *
      generalize strOfNums xa = ya at *
      generalize strOfNums xb = yb at *
      have hxs : (x.size : Int) = (la : Int) + (t : Int) := by omega
      have f1 : (x.size : Int) - (t : Int) = (la : Int) := by omega
      have f2 : IntKind.i64.wrap (la : Int) = (la : Int) := IntWalk.i64_in _ (by omega)
      have f3 : la ≤ x.size := by omega
      have F3 : (la : Int) ≤ (x.size : Int) := by omega
      have F4 := Lib.hid hxs
      clear hxs hsz
      go_enter Tryd.func46, Tryd.ntmps46
      go_wp2_with fail
      refine (HD.out _).mono ?_
      rintro e w1 ⟨rfl, hb1⟩
      go_wp2_with fail
      go_quiet (fail)
      go_wp2
      go_ret2
      exact ⟨.inr ⟨HB.out, ret2_s (by rw [hx1.out, hx2.out]; exact hV.out.symm)⟩, bl_drewN hb1 _⟩
end Go.Proofs.YtccnfklemalmeaaDoor
