/- notice.checks, and what the thirteen checks find first. -/
import Derived.Test.YtblfobepaipebaaGreatDoorNChecks
set_option linter.unusedVariables false
set_option linter.unusedSimpArgs false
set_option maxRecDepth 100000
namespace Go.Proofs.YtblfobepaipebaaGreatDoor
open Go.RowKit Go.Shelf

def wrongK (x : Nt) : Nat → Bool
  | 0 => wrong0 x | 1 => wrong1 x | 2 => wrong2 x | 3 => wrong3 x | 4 => wrong4 x | 5 => wrong5 x | 6 => wrong6 x | 7 => wrong7 x | 8 => wrong8 x | 9 => wrong9 x | 10 => wrong10 x | 11 => wrong11 x | 12 => wrong12 x | _ => false
def noK : Nat → Int
  | 0 => 6 | 1 => 6 | 2 => 8 | 3 => 4 | 4 => 16 | 5 => 14 | 6 => 4 | 7 => 14 | 8 => 16 | 9 => 4 | 10 => 1 | 11 => 1 | 12 => 5 | _ => 1
def fK : Nat → Nat
  | 0 => 67 | 1 => 68 | 2 => 69 | 3 => 71 | 4 => 74 | 5 => 75 | 6 => 77 | 7 => 79 | 8 => 80 | 9 => 81 | 10 => 83 | 11 => 84 | _ => 85
def headFrom (x : Nt) : Nat → Nat → Int
  | _, 0 => 0
  | k, n + 1 => if wrongK x k then noK k else headFrom x (k + 1) n
def headE (x : Nt) : Int := headFrom x 0 13
theorem noK_range (k : Nat) : 1 ≤ noK k ∧ noK k ≤ 24 := by
  unfold noK
  split <;> omega
def cellsK : Array Value := #[.int .i64 6, .func (.func 67) #[] #[], .int .i64 6, .func (.func 68) #[] #[], .int .i64 8, .func (.func 69) #[] #[], .int .i64 4, .func (.func 71) #[] #[], .int .i64 16, .func (.func 74) #[] #[], .int .i64 14, .func (.func 75) #[] #[], .int .i64 4, .func (.func 77) #[] #[], .int .i64 14, .func (.func 79) #[] #[], .int .i64 16, .func (.func 80) #[] #[], .int .i64 4, .func (.func 81) #[] #[], .int .i64 1, .func (.func 83) #[] #[], .int .i64 1, .func (.func 84) #[] #[], .int .i64 5, .func (.func 85) #[] #[]]
theorem thirteen {k : Nat} (h : k < 13) : k = 0 ∨ k = 1 ∨ k = 2 ∨ k = 3 ∨ k = 4 ∨ k = 5 ∨ k = 6 ∨ k = 7 ∨ k = 8 ∨ k = 9 ∨ k = 10 ∨ k = 11 ∨ k = 12 := by omega
theorem cellsK_at {k : Nat} (h : k < 13) : cellsK[k * 2]? = some (.int .i64 (noK k)) ∧ cellsK[k * 2 + 1]? = some (.func (.func (fK k)) #[] #[]) := by
  rcases thirteen h with rfl | rfl | rfl | rfl | rfl | rfl | rfl | rfl | rfl | rfl | rfl | rfl | rfl <;> exact ⟨rfl, rfl⟩
theorem checkK_any (x : Nt) (hx : x.wf) {k : Nat} (h : k < 13) (w : World) (hp : PowT w) :
    Calls Tryz.prog (fK k) #[.agg (noteC x)] w fun e w' => e = .returned (.bool (wrongK x k)) ∧ Below w.heap.size w w' := by
  rcases thirteen h with rfl | rfl | rfl | rfl | rfl | rfl | rfl | rfl | rfl | rfl | rfl | rfl | rfl
  · exact check1_any x hx w hp
  · exact check2_any x hx w hp
  · exact check3_any x hx w hp
  · exact check4_any x hx w hp
  · exact check5_any x hx w hp
  · exact check6_any x hx w hp
  · exact check7_any x hx w hp
  · exact check8_any x hx w hp
  · exact check9_any x hx w hp
  · exact check10_any x hx w hp
  · exact check11_any x hx w hp
  · exact check12_any x hx w hp
  · exact check13_any x hx w hp
theorem enterK {k : Nat} (h : k < 13) (args : Array Value) (w : World) : (callFunc (fK k) args).run Tryz.prog w = .ok (.enter (fK k) args) w := by
  rcases thirteen h with rfl | rfl | rfl | rfl | rfl | rfl | rfl | rfl | rfl | rfl | rfl | rfl | rfl <;> kernel_rfl
theorem checks_any (w : World) : Calls Tryz.prog 31 #[] w fun e w' => e = .returned (.slice (some ⟨w.heap.size, 0, none⟩) 13 13) ∧ w' = w.alloc (.cells cellsK 73) := by
  go_enter Tryz.func31, Tryz.ntmps31
  go_wp2
  go_ret
  exact ⟨rfl, rfl⟩
end Go.Proofs.YtblfobepaipebaaGreatDoor
