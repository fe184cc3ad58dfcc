/- Joined texts of this proof: Codes. -/
import Derived.LoopTactic
import Derived.Deep.LoopGhost
import Derived.Laws.RangeString
import Derived.Test.YtphabkaiheplpaaGreatDoorTurns1
/- codes.is, codes.has, codes.Bic and the document's own, by contracts. -/
set_option linter.unusedVariables false
set_option linter.unusedSimpArgs false
set_option maxRecDepth 100000
namespace Go.Proofs.YtphabkaiheplpaaGreatDoor
open Go.RowKit

/-- A capital, a digit, either: by a form's letter (C, D, S). -/
def capI (c : Int) : Bool := decide (65 ≤ c) && decide (c ≤ 90)
def digI (c : Int) : Bool := decide (48 ≤ c) && decide (c ≤ 57)
def fitsI (f c : Int) : Bool := if f = 67 then capI c else if f = 68 then digI c else digI c || capI c
theorem ret_b {a b : Bool} (h : a = b) : Ending.returned (.bool a) = .returned (.bool b) := by rw [h]
theorem is_any (c f : Int) (hf : f = 67 ∨ f = 68 ∨ f = 83) (w : World) : Calls Tryz.prog 117 #[.int .u8 c, .int .i32 f] w fun e w' => e = .returned (.bool (fitsI f c)) ∧ w = w' := by
  rcases hf with rfl | rfl | rfl
  all_goals
    go_enter Tryz.func117, Tryz.ntmps117
    go_wp2
    all_goals go_ret
    all_goals exact ⟨ret_b (by first | (simp only [fitsI, capI, digI]; simp; omega) | (symm; simp only [fitsI, capI, digI]; simp; omega)), rfl⟩
theorem isDigit_any (c : Int) (w : World) : Calls Tryz.prog 157 #[.int .u8 c] w fun e w' => e = .returned (.bool (digI c)) ∧ w = w' := by
  go_enter Tryz.func157, Tryz.ntmps157
  go_wp2
  all_goals go_ret
  all_goals exact ⟨ret_b (by first | (simp only [fitsI, capI, digI]; simp; omega) | (symm; simp only [fitsI, capI, digI]; simp; omega)), rfl⟩
theorem isCapital_any (c : Int) (w : World) : Calls Tryz.prog 158 #[.int .u8 c] w fun e w' => e = .returned (.bool (capI c)) ∧ w = w' := by
  go_enter Tryz.func158, Tryz.ntmps158
  go_wp2
  all_goals go_ret
  all_goals exact ⟨ret_b (by first | (simp only [fitsI, capI, digI]; simp; omega) | (symm; simp only [fitsI, capI, digI]; simp; omega)), rfl⟩
theorem isSign_any (c : Int) (w : World) : Calls Tryz.prog 136 #[.int .u8 c] w fun e w' => e = .returned (.bool (digI c || capI c)) ∧ w = w' := by
  go_enter Tryz.func136, Tryz.ntmps136
  go_wp2_with (first | (go_at_call 157; refine (isDigit_any _ _).mono ?_; rintro e w1 ⟨rfl, rfl⟩) | (go_at_call 158; refine (isCapital_any _ _).mono ?_; rintro e w1 ⟨rfl, rfl⟩))
  all_goals go_ret
  all_goals exact ⟨ret_b (by simp [*]), rfl⟩
theorem fits_any (c f : Int) (hf : f = 67 ∨ f = 68 ∨ f = 83) (w : World) : Calls Tryz.prog 170 #[.int .u8 c, .int .u8 f] w fun e w' => e = .returned (.bool (fitsI f c)) ∧ w = w' := by
  rcases hf with rfl | rfl | rfl
  all_goals
    go_enter Tryz.func170, Tryz.ntmps170
    go_wp2_with (first | (go_at_call 157; refine (isDigit_any _ _).mono ?_; rintro e w1 ⟨rfl, rfl⟩) | (go_at_call 158; refine (isCapital_any _ _).mono ?_; rintro e w1 ⟨rfl, rfl⟩) | (go_at_call 136; refine (isSign_any _ _).mono ?_; rintro e w1 ⟨rfl, rfl⟩))
    all_goals go_ret
    all_goals exact ⟨ret_b (by simp [fitsI]), rfl⟩
end Go.Proofs.YtphabkaiheplpaaGreatDoor
