/- calendar.Of by its contract: a day has a date, what is no day has an error. -/
import Derived.Test.YtblfobepaipebaaGreatDoorGerr
import Derived.Test.YtblfobepaipebaaGreatDoorCalP
import Derived.Lib.Hide
import Derived.Deep.LoopGhost
import Derived.Deep.Draws
import Derived.Deep.Cut
import Derived.Deep.CutBlock
import Derived.Deep.DeepCutAuto
set_option linter.unusedVariables false
set_option linter.unusedSimpArgs false
set_option maxRecDepth 100000
namespace Go.Proofs.YtblfobepaipebaaGreatDoor
open Go.RowKit

set_option maxHeartbeats 4000000 in
theorem ahead_any (m : Nat) (h1 : 1 ≤ m) (h2 : m ≤ 13) (w : World) : Calls Tryz.prog 246 #[.int .i64 m] w fun e w' => e = .returned (.int .i64 (aheadF m)) ∧ Below w.heap.size w w' := by
  have hm : m = 1 ∨ m = 2 ∨ m = 3 ∨ m = 4 ∨ m = 5 ∨ m = 6 ∨ m = 7 ∨ m = 8 ∨ m = 9 ∨ m = 10 ∨ m = 11 ∨ m = 12 ∨ m = 13 := by omega
  clear h1 h2
  rcases hm with rfl | rfl | rfl | rfl | rfl | rfl | rfl | rfl | rfl | rfl | rfl | rfl | rfl
  all_goals
    go_enter Tryz.func246, Tryz.ntmps246
    go_wp2
    go_ret
    exact ⟨rfl, by repeat (first | exact bl_refl _ | apply bl_alloc)⟩
theorem leap_any (y : Int) (h : 0 ≤ y) (w : World) : Calls Tryz.prog 247 #[.int .i64 y] w fun e w' => e = .returned (.bool (leapY y)) ∧ w = w' := by
  have e4 : y.tmod 4 = y % 4 := Int.tmod_eq_emod_of_nonneg h
  have e100 : y.tmod 100 = y % 100 := Int.tmod_eq_emod_of_nonneg h
  have e400 : y.tmod 400 = y % 400 := Int.tmod_eq_emod_of_nonneg h
  unfold leapY
  by_cases h4 : y % 4 = 0
  · by_cases h100 : y % 100 = 0
    · by_cases h400 : y % 400 = 0
      · rw [decide_eq_true h4, decide_eq_true h100, decide_eq_true h400]
        go_enter Tryz.func247, Tryz.ntmps247
        go_wp2
        go_ret
        exact ⟨rfl, rfl⟩
      · have b4 : (y % 400 == 0) = false := by simp [h400]
        rw [decide_eq_true h4, decide_eq_true h100, decide_eq_false h400]
        go_enter Tryz.func247, Tryz.ntmps247
        go_wp2
        go_ret
        exact ⟨rfl, rfl⟩
    · have b1 : (y % 100 != 0) = true := by simp [h100]
      rw [decide_eq_true h4, decide_eq_false h100]
      go_enter Tryz.func247, Tryz.ntmps247
      go_wp2
      go_ret
      exact ⟨rfl, rfl⟩
  · have b4 : (y % 4 == 0) = false := by simp [h4]
    rw [decide_eq_false h4]
    go_enter Tryz.func247, Tryz.ntmps247
    go_wp2
    go_ret
    exact ⟨rfl, rfl⟩
theorem length_any (y : Int) (m : Nat) (hy : 0 ≤ y) (h1 : 1 ≤ m) (h2 : m ≤ 12) (w : World) : Calls Tryz.prog 211 #[.int .i64 y, .int .i64 m] w fun e w' => e = .returned (.int .i64 (lenF (leapY y) m)) ∧ Below w.heap.size w w' := by
  have A1 := fun w => ahead_any m h1 (by omega) w
  have A2 := fun w => ahead_any (m + 1) (by omega) (by omega) w
  have L := fun w => leap_any y hy w
  have em : (m : Int) + 1 = ((m + 1 : Nat) : Int) := by omega
  have rm : IntKind.i64.wrap ((m + 1 : Nat) : Int) = ((m + 1 : Nat) : Int) := by rw [IntKind.wrap_i64]; omega
  have hd : 28 ≤ aheadF (m + 1) - aheadF m ∧ aheadF (m + 1) - aheadF m ≤ 31 := by
    have := lenF_range (lp := false) h1 h2
    unfold lenF at this
    simp at this
    exact this
  unfold lenF
  generalize aheadF (m + 1) = a at A2 hd ⊢
  generalize aheadF m = b at A1 hd ⊢
  generalize leapY y = lp at L ⊢
  generalize m + 1 = m1 at em rm A2
  have rd : IntKind.i64.wrap (a - b) = a - b := by rw [IntKind.wrap_i64]; omega
  have rd1 : IntKind.i64.wrap (a - b + 1) = a - b + 1 := by rw [IntKind.wrap_i64]; omega
  have H1 := Lib.hid A1
  have H2 := Lib.hid A2
  have H3 := Lib.hid L
  clear A1 A2 L hd h1 h2
  by_cases e : m = 2
  · have b2 : ((m : Int) == 2) = true := by simp; omega
    have HE := Lib.hid e
    clear e
    cases lp with
    | false =>
      rw [if_neg (fun h => by cases h.2), Int.add_zero]
      go_enter Tryz.func211, Tryz.ntmps211
      go_wp2_with (first | (go_at_call 246; first | (with_reducible refine (H2.out _).mono ?_; rintro e w1 ⟨rfl, hb1⟩; have B1 := Lib.hid hb1; clear hb1) | (with_reducible refine (H1.out _).mono ?_; rintro e w2 ⟨rfl, hb2⟩; have B2 := Lib.hid (bl_then B1.out hb2); clear hb2)) | (go_at_call 247; with_reducible refine (H3.out _).mono ?_; rintro e w3 ⟨rfl, rfl⟩))
      go_ret
      exact ⟨by simp, B2.out⟩
    | true =>
      rw [if_pos ⟨HE.out, rfl⟩]
      go_enter Tryz.func211, Tryz.ntmps211
      go_wp2_with (first | (go_at_call 246; first | (with_reducible refine (H2.out _).mono ?_; rintro e w1 ⟨rfl, hb1⟩; have B1 := Lib.hid hb1; clear hb1) | (with_reducible refine (H1.out _).mono ?_; rintro e w2 ⟨rfl, hb2⟩; have B2 := Lib.hid (bl_then B1.out hb2); clear hb2)) | (go_at_call 247; with_reducible refine (H3.out _).mono ?_; rintro e w3 ⟨rfl, rfl⟩))
      go_ret
      exact ⟨by simp, B2.out⟩
  · have b2 : ((m : Int) == 2) = false := by simp; omega
    rw [if_neg (fun h => e h.1), Int.add_zero]
    clear e
    go_enter Tryz.func211, Tryz.ntmps211
    go_wp2_with (first | (go_at_call 246; first | (with_reducible refine (H2.out _).mono ?_; rintro e w1 ⟨rfl, hb1⟩; have B1 := Lib.hid hb1; clear hb1) | (with_reducible refine (H1.out _).mono ?_; rintro e w2 ⟨rfl, hb2⟩; have B2 := Lib.hid (bl_then B1.out hb2); clear hb2)))
    go_ret
    exact ⟨by simp, B2.out⟩

theorem isDay_any (n : Int) (w : World) : Calls Tryz.prog 157 #[.int .i64 n] w fun e w' => e = .returned (.bool (decide (1 ≤ n) && decide (n ≤ 3652059))) ∧ w = w' := by
  by_cases h1 : 1 ≤ n
  · rw [decide_eq_true h1]
    go_enter Tryz.func157, Tryz.ntmps157
    go_wp2
    all_goals (go_ret; exact ⟨by simp [*], rfl⟩)
  · rw [decide_eq_false h1]
    go_enter Tryz.func157, Tryz.ntmps157
    go_wp2
    all_goals (go_ret; exact ⟨by simp [*], rfl⟩)
end Go.Proofs.YtblfobepaipebaaGreatDoor
