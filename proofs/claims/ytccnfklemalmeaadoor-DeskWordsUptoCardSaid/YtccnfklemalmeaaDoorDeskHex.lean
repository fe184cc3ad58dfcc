/- desk's and the document's isBlank and hex by contracts. -/
import Derived.Test.YtccnfklemalmeaaDoorDeskPure
import Derived.Test.YtccnfklemalmeaaDoorPlain
import Derived.Lib.Hide
set_option linter.unusedVariables false
set_option linter.unusedSimpArgs false
set_option maxRecDepth 100000
namespace Go.Proofs.YtccnfklemalmeaaDoor
open Go.RowKit Go.Proofs.YtccnfklemalmeaaDoor.Dw

theorem ret_i {k : IntKind} {a b : Int} (h : a = b) : Ending.returned (.int k a) = .returned (.int k b) := by rw [h]
theorem rblank (c : Int) (w : World) : Calls Tryd.prog 62 #[.int .u8 c] w fun e w' => e = .returned (.bool (blankB c)) ∧ w = w' := by
  unfold blankB
  by_cases h1 : c = 32
  · subst h1
    go_enter Tryd.func62, Tryd.ntmps62
    go_wp2
    go_ret
    exact ⟨rfl, rfl⟩
  · by_cases h2 : c = 9
    · subst h2
      go_enter Tryd.func62, Tryd.ntmps62
      go_wp2
      go_ret
      exact ⟨rfl, rfl⟩
    · by_cases h3 : c = 13
      · subst h3
        go_enter Tryd.func62, Tryd.ntmps62
        go_wp2
        go_ret
        exact ⟨rfl, rfl⟩
      · rw [decide_eq_false (by omega)]
        have e1 : (c == 32) = false := by simp [h1]
        have e2 : (c == 9) = false := by simp [h2]
        have e3 : (c == 13) = false := by simp [h3]
        clear h1 h2 h3
        go_enter Tryd.func62, Tryd.ntmps62
        go_wp2
        go_ret
        exact ⟨rfl, rfl⟩
theorem dblank (c : Int) (w : World) : Calls Tryd.prog 64 #[.int .u8 c] w fun e w' => e = .returned (.bool (blankB c)) ∧ w = w' := by
  unfold blankB
  by_cases h1 : c = 32
  · subst h1
    go_enter Tryd.func64, Tryd.ntmps64
    go_wp2
    go_ret
    exact ⟨rfl, rfl⟩
  · by_cases h2 : c = 9
    · subst h2
      go_enter Tryd.func64, Tryd.ntmps64
      go_wp2
      go_ret
      exact ⟨rfl, rfl⟩
    · by_cases h3 : c = 13
      · subst h3
        go_enter Tryd.func64, Tryd.ntmps64
        go_wp2
        go_ret
        exact ⟨rfl, rfl⟩
      · rw [decide_eq_false (by omega)]
        have e1 : (c == 32) = false := by simp [h1]
        have e2 : (c == 9) = false := by simp [h2]
        have e3 : (c == 13) = false := by simp [h3]
        clear h1 h2 h3
        go_enter Tryd.func64, Tryd.ntmps64
        go_wp2
        go_ret
        exact ⟨rfl, rfl⟩
theorem rhex (c : Int) (h0 : 0 ≤ c) (h9 : c ≤ 255) (w : World) : Calls Tryd.prog 87 #[.int .u8 c] w fun e w' => e = .returned (.int .i64 (hexv c)) ∧ w = w' := by
  by_cases a : 48 ≤ c ∧ c ≤ 57
  · have e : hexv c = c - 48 := by unfold hexv; rw [if_pos a]
    obtain ⟨a1, a2⟩ := a
    rw [e]
    clear e
    go_enter Tryd.func87, Tryd.ntmps87
    go_wp2
    go_ret
    exact ⟨rfl, rfl⟩
  · by_cases b : 97 ≤ c ∧ c ≤ 102
    · have e : hexv c = c - 87 := by unfold hexv; rw [if_neg a, if_pos b]
      obtain ⟨b1, b2⟩ := b
      have a2 : ¬ c ≤ 57 := by omega
      have a1 : 48 ≤ c := by omega
      rw [e]
      clear e a
      go_enter Tryd.func87, Tryd.ntmps87
      go_wp2
      go_ret
      exact ⟨ret_i (by omega), rfl⟩
    · by_cases d : 65 ≤ c ∧ c ≤ 70
      · have e : hexv c = c - 55 := by unfold hexv; rw [if_neg a, if_neg b, if_pos d]
        obtain ⟨d1, d2⟩ := d
        have a2 : ¬ c ≤ 57 := by omega
        have a1 : 48 ≤ c := by omega
        have b1 : ¬ 97 ≤ c := by omega
        rw [e]
        clear e a b
        go_enter Tryd.func87, Tryd.ntmps87
        go_wp2
        go_ret
        exact ⟨ret_i (by omega), rfl⟩
      · have e : hexv c = 16 := by unfold hexv; rw [if_neg a, if_neg b, if_neg d]
        rw [e]
        clear e
        by_cases a1 : 48 ≤ c <;> by_cases a2 : c ≤ 57 <;> by_cases b1 : 97 ≤ c <;> by_cases b2 : c ≤ 102 <;> by_cases d1 : 65 ≤ c <;> by_cases d2 : c ≤ 70 <;> first | (exfalso; omega) | (clear a b d; go_enter Tryd.func87, Tryd.ntmps87; go_wp2; go_ret; exact ⟨rfl, rfl⟩)
theorem dhex (c : Int) (h0 : 0 ≤ c) (h9 : c ≤ 255) (w : World) : Calls Tryd.prog 88 #[.int .u8 c] w fun e w' => e = .returned (.int .u8 (hexv c)) ∧ w = w' := by
  by_cases a : 48 ≤ c ∧ c ≤ 57
  · have e : hexv c = c - 48 := by unfold hexv; rw [if_pos a]
    obtain ⟨a1, a2⟩ := a
    rw [e]
    clear e
    go_enter Tryd.func88, Tryd.ntmps88
    go_wp2
    go_ret
    exact ⟨rfl, rfl⟩
  · by_cases b : 97 ≤ c ∧ c ≤ 102
    · have e : hexv c = c - 87 := by unfold hexv; rw [if_neg a, if_pos b]
      obtain ⟨b1, b2⟩ := b
      have a2 : ¬ c ≤ 57 := by omega
      have a1 : 48 ≤ c := by omega
      rw [e]
      clear e a
      go_enter Tryd.func88, Tryd.ntmps88
      go_wp2
      go_ret
      exact ⟨ret_i (by omega), rfl⟩
    · by_cases d : 65 ≤ c ∧ c ≤ 70
      · have e : hexv c = c - 55 := by unfold hexv; rw [if_neg a, if_neg b, if_pos d]
        obtain ⟨d1, d2⟩ := d
        have a2 : ¬ c ≤ 57 := by omega
        have a1 : 48 ≤ c := by omega
        have b1 : ¬ 97 ≤ c := by omega
        rw [e]
        clear e a b
        go_enter Tryd.func88, Tryd.ntmps88
        go_wp2
        go_ret
        exact ⟨ret_i (by omega), rfl⟩
      · have e : hexv c = 16 := by unfold hexv; rw [if_neg a, if_neg b, if_neg d]
        rw [e]
        clear e
        by_cases a1 : 48 ≤ c <;> by_cases a2 : c ≤ 57 <;> by_cases b1 : 97 ≤ c <;> by_cases b2 : c ≤ 102 <;> by_cases d1 : 65 ≤ c <;> by_cases d2 : c ≤ 70 <;> first | (exfalso; omega) | (clear a b d; go_enter Tryd.func88, Tryd.ntmps88; go_wp2; go_ret; exact ⟨rfl, rfl⟩)
end Go.Proofs.YtccnfklemalmeaaDoor
