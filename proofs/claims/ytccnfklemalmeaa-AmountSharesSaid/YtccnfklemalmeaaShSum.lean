/- amount.Sum at each width, by one contract: the sum and its error. -/
import Derived.Test.YtccnfklemalmeaaShBase
import Derived.Deep.Draws
set_option linter.unusedVariables false
set_option linter.unusedSimpArgs false
set_option maxRecDepth 100000
namespace Go.Proofs.Ytccnfklemalmeaa
open Go.RowKit

/-- A slice of whole numbers that can be read. -/
def RdI (w : World) (k : IntKind) (A : Option Addr) (n : Nat) (xs : List Int) : Prop :=
  xs.length = n ∧ n ≤ 9223372036854775807 ∧ (0 < n → ∃ ad, A = some ad ∧ ∀ j, j < n → w.cell? (ad.add j) = some (.int k (xs.getD j 0)))
theorem RdI.at_ {w : World} {k : IntKind} {A : Option Addr} {n : Nat} {xs : List Int} (h : RdI w k A n xs) {i : Nat} (h1 : i < n) : ∃ ad, A = some ad ∧ w.cell? (ad.add i) = some (.int k (xs.getD i 0)) := by
  obtain ⟨ad, e, hc⟩ := h.2.2 (by omega)
  exact ⟨ad, e, hc _ h1⟩
theorem RdI.below {w w1 : World} {k : IntKind} {A : Option Addr} {n : Nat} {xs : List Int} (h : RdI w k A n xs) (hb : Below w.heap.size w w1) : RdI w1 k A n xs :=
  ⟨h.1, h.2.1, fun hn => by
    obtain ⟨ad, e, hc⟩ := h.2.2 hn
    exact ⟨ad, e, fun j hj => bl_cell hb (hc j hj)⟩⟩

/-- bits.Add64 with no carry in. -/
theorem ex_add64 (x y : Int) (hx : 0 ≤ x) (hy : 0 ≤ y) (w : World) : (callFunc 10 #[.int .u64 x, .int .u64 y, .int .u64 0]).run Try.prog w = .ok (.value (.tuple #[.int .u64 ((x + y) % 18446744073709551616), .int .u64 ((x + y) / 18446744073709551616)])) w := by
  have h := run_callFunc_extern (e := add64Entry) Try.func10 (by kernel_rfl) (by kernel_rfl) (by kernel_rfl) (by kernel_rfl) #[.int .u64 x, .int .u64 y, .int .u64 0] w
  rw [h, run_add64 x y 0 hx hy (by omega) (by omega)]
  simp [Result.andThen]

/-- The two words of the sum so far: hi times 2^64 and lo. -/
def Words (zs : List Int) (k : Nat) (hi lo : Value) : Prop := ∃ a b : Int, hi = .int .i64 a ∧ lo = .int .u64 b ∧ 0 ≤ b ∧ b < 18446744073709551616 ∧ a * 18446744073709551616 + b = theSum (zs.take k) ∧ -(k : Int) ≤ a ∧ a ≤ k

theorem sum_next {zs : List Int} {k : Nat} (h : k < zs.length) : theSum (zs.take (k + 1)) = theSum (zs.take k) + zs.getD k 0 := by
  rw [take_next zs k h, theSum_append]
  simp only [theSum]
  omega
theorem words_next {zs : List Int} {k : Nat} {a b x : Int} (hk : k < zs.length) (hb : k < 9223372036854775800) (hx : zs.getD k 0 = x) (hx1 : -9223372036854775808 ≤ x ∧ x ≤ 9223372036854775807) (hb0 : 0 ≤ b) (hb1 : b < 18446744073709551616)
    (hab : a * 18446744073709551616 + b = theSum (zs.take k)) (ha0 : -(k : Int) ≤ a) (ha1 : a ≤ k) :
    Words zs (k + 1) (.int .i64 (wrap64 (a + wrap64 (wrap64 ((b + IntKind.u64.wrap x) / 18446744073709551616) + x / 9223372036854775808)))) (.int .u64 ((b + IntKind.u64.wrap x) % 18446744073709551616)) := by
  have hs := sum_next hk
  rw [hx] at hs
  clear hx
  rw [IntKind.wrap_u64]
  have e : wrap64 (a + wrap64 (wrap64 ((b + x % 18446744073709551616) / 18446744073709551616) + x / 9223372036854775808)) = a + ((b + x % 18446744073709551616) / 18446744073709551616 + x / 9223372036854775808) := by
    clear hs hab
    unfold wrap64
    omega
  rw [e]
  clear e
  refine ⟨_, _, rfl, rfl, by omega, by omega, ?_, ?_, ?_⟩
  · rw [hs, ← hab]
    clear hs hab ha0 ha1 hk hb
    omega
  · clear hs hab
    omega
  · clear hs hab
    omega
theorem words_bad {zs : List Int} {a b : Int} (hb0 : 0 ≤ b) (hb1 : b < 18446744073709551616) (hab : a * 18446744073709551616 + b = theSum zs) (h : (a != wrap64 b / 9223372036854775808) = true) : sumV zs = 0 ∧ sumE zs = 9 := by
  have h' : a ≠ wrap64 b / 9223372036854775808 := by simpa using h
  have e : (b < 9223372036854775808 ∧ a ≠ 0) ∨ (9223372036854775808 ≤ b ∧ a ≠ -1) := by
    clear hab h
    unfold wrap64 at h'
    omega
  clear h h'
  have := sum_bad (l := zs) (by omega)
  injection this with h1 h2
  exact ⟨h1.symm, h2.symm⟩
theorem words_good {zs : List Int} {a b : Int} (hb0 : 0 ≤ b) (hb1 : b < 18446744073709551616) (hab : a * 18446744073709551616 + b = theSum zs) (h : (a != wrap64 b / 9223372036854775808) = false) : sumV zs = wrap64 b ∧ sumE zs = 0 := by
  have h' : a = wrap64 b / 9223372036854775808 := by simpa using h
  have e : (b < 9223372036854775808 ∧ a = 0 ∧ wrap64 b = b) ∨ (9223372036854775808 ≤ b ∧ a = -1 ∧ wrap64 b = b - 18446744073709551616) := by
    clear hab h
    unfold wrap64 at h' ⊢
    omega
  clear h h'
  have := sum_good (l := zs) (by omega) (by omega) (wrap64 b) (by omega)
  injection this with h1 h2
  exact ⟨h1.symm, h2.symm⟩

theorem sum_s64 (A0 : Option Addr) (n c : Nat) (zs : List Int) (w : World) (hr : RdI w .i64 A0 n zs) (hn : n * 8 ≤ 140737488351232) (hin : In64 zs) :
    Calls Try.prog 4 #[.slice A0 n c] w fun e w' => RetE (.int .i64 (sumV zs)) (sumE zs) w e w' := by
  obtain ⟨hl, hm, hc⟩ := hr
  go_enter Try.func4, Try.ntmps4
  go_wp2
  go_loop [4, 5, 13] (fun h l i => ∃ k : Nat, k ≤ n ∧ i = .int .i64 k ∧ Words zs k h l) (fun _ _ i => n - (intOf i).toNat)
  case atStart => exact ⟨0, Nat.zero_le _, rfl, 0, 0, rfl, rfl, by omega, by omega, by simp [theSum], by omega, by omega⟩
  case round =>
    obtain ⟨k, hk, rfl, a, b, rfl, rfl, hb0, hb1, hab, ha0, ha1⟩ := hrel
    by_cases hlt : k < n
    · obtain ⟨ad, rfl, hcell⟩ := hc (by omega)
      have hck := hcell k hlt
      have hx := getD_in hin (show k < zs.length by omega)
      have hnext := words_next (zs := zs) (k := k) (a := a) (b := b) (by omega) (by omega) rfl hx hb0 hb1 hab ha0 ha1
      generalize zs.getD k 0 = x at hck hx hnext
      have had := ex_add64 b (IntKind.u64.wrap x) hb0 (by rw [IntKind.wrap_u64]; omega)
      have HN := Lib.hid hnext
      clear hcell hc hnext
      go_wp2
      go_round
      case rel => exact ⟨k + 1, by omega, by go_num, HN.out⟩
      case measure => simp [intOf]; omega
    · obtain rfl : k = n := by omega
      rw [List.take_of_length_le (by omega)] at hab
      have HB := Lib.hid (words_bad hb0 hb1 hab)
      have HG := Lib.hid (words_good hb0 hb1 hab)
      clear hab
      go_wp2
      · obtain ⟨h1, h2⟩ := HB.out (by assumption)
        rw [h1, h2]
        go_ret2
        exact ⟨.amount _ 9, rfl, .inr (by simp [GErr.num]), rfl, bl_refl _⟩
      · obtain ⟨h1, h2⟩ := HG.out (by assumption)
        rw [h1, h2]
        go_ret2
        exact ⟨.nil, rfl, .inl rfl, rfl, bl_refl _⟩
end Go.Proofs.Ytccnfklemalmeaa
