/- amount.Add, amount.Sub, the references' Add and Sub by contracts; the law AmountSums by its walk. -/
import Derived.Test.YtccnfklemalmeaaDoorPlain
import Derived.Test.YtccnfklemalmeaaDoorRowWords
import Derived.Lib.Hide
set_option linter.unusedVariables false
set_option linter.unusedSimpArgs false
set_option maxRecDepth 100000
namespace Go.Proofs.YtccnfklemalmeaaDoor
open Go.RowKit

def addE (a b : Int) : Int := if a < 0 ∨ b < 0 then 1 else if 9223372036854775807 < a + b then 9 else 0
def addV (a b : Int) : Int := if addE a b = 0 then a + b else 0
def subE (a b : Int) : Int := if a < 0 ∨ b < 0 then 1 else if a < b then 2 else 0
def subV (a b : Int) : Int := if subE a b = 0 then a - b else 0
/-- A number and an error come back; old memory is as it was. -/
def RetE (x : Value) (n : Int) (w : World) (e : Ending) (w' : World) : Prop := ∃ E : GErr, e = .returned (.tuple #[x, E.val]) ∧ E.ok ∧ E.num = n ∧ Below w.heap.size w w'

theorem ret2_int {k : IntKind} {l : IntKind} {a b c d : Int} (h : a = b) (g : c = d) : Ending.returned (.tuple #[.int k a, .int l c]) = .returned (.tuple #[.int k b, .int l d]) := by rw [h, g]

theorem add_any (a b : Int) (ha : I64 a) (hb : I64 b) (w : World) : Calls Tryd.prog 13 #[.int .i64 a, .int .i64 b] w (RetE (.int .i64 (addV a b)) (addE a b) w) := by
  obtain ⟨ha1, ha2⟩ := ha
  obtain ⟨hb1, hb2⟩ := hb
  by_cases h1 : a < 0
  · have e1 : addE a b = 1 := if_pos (.inl h1)
    have e2 : addV a b = 0 := by unfold addV; rw [e1]; rfl
    rw [e1, e2]
    clear e1 e2
    go_enter Tryd.func13, Tryd.ntmps13
    go_wp2
    go_ret2
    exact ⟨.no 1, rfl, .inr (by simp [GErr.num]), rfl, bl_refl _⟩
  · by_cases h2 : b < 0
    · have e1 : addE a b = 1 := if_pos (.inr h2)
      have e2 : addV a b = 0 := by unfold addV; rw [e1]; rfl
      rw [e1, e2]
      clear e1 e2
      go_enter Tryd.func13, Tryd.ntmps13
      go_wp2
      go_ret2
      exact ⟨.no 1, rfl, .inr (by simp [GErr.num]), rfl, bl_refl _⟩
    · by_cases h3 : 9223372036854775807 < a + b
      · have e1 : addE a b = 9 := by unfold addE; rw [if_neg (by omega), if_pos h3]
        have e2 : addV a b = 0 := by unfold addV; rw [e1]; rfl
        rw [e1, e2]
        clear e1 e2
        have h4 : 9223372036854775807 - b < a := by omega
        go_enter Tryd.func13, Tryd.ntmps13
        go_wp2
        go_ret2
        exact ⟨.amount _ 9, rfl, .inr (by simp [GErr.num]), rfl, bl_refl _⟩
      · have e1 : addE a b = 0 := by unfold addE; rw [if_neg (by omega), if_neg h3]
        have e2 : addV a b = a + b := by unfold addV; rw [if_pos e1]
        rw [e1, e2]
        clear e1 e2
        have h4 : ¬ 9223372036854775807 - b < a := by omega
        have h5 : a + b ≤ 9223372036854775807 := by omega
        go_enter Tryd.func13, Tryd.ntmps13
        go_wp2
        go_ret2
        exact ⟨.nil, rfl, .inl rfl, rfl, bl_refl _⟩

theorem sub_any (a b : Int) (ha : I64 a) (hb : I64 b) (w : World) : Calls Tryd.prog 14 #[.int .i64 a, .int .i64 b] w (RetE (.int .i64 (subV a b)) (subE a b) w) := by
  obtain ⟨ha1, ha2⟩ := ha
  obtain ⟨hb1, hb2⟩ := hb
  by_cases h1 : a < 0
  · have e1 : subE a b = 1 := if_pos (.inl h1)
    have e2 : subV a b = 0 := by unfold subV; rw [e1]; rfl
    rw [e1, e2]
    clear e1 e2
    go_enter Tryd.func14, Tryd.ntmps14
    go_wp2
    go_ret2
    exact ⟨.no 1, rfl, .inr (by simp [GErr.num]), rfl, bl_refl _⟩
  · by_cases h2 : b < 0
    · have e1 : subE a b = 1 := if_pos (.inr h2)
      have e2 : subV a b = 0 := by unfold subV; rw [e1]; rfl
      rw [e1, e2]
      clear e1 e2
      go_enter Tryd.func14, Tryd.ntmps14
      go_wp2
      go_ret2
      exact ⟨.no 1, rfl, .inr (by simp [GErr.num]), rfl, bl_refl _⟩
    · by_cases h3 : a < b
      · have e1 : subE a b = 2 := by unfold subE; rw [if_neg (by omega), if_pos h3]
        have e2 : subV a b = 0 := by unfold subV; rw [e1]; rfl
        rw [e1, e2]
        clear e1 e2
        go_enter Tryd.func14, Tryd.ntmps14
        go_wp2
        go_ret2
        exact ⟨.amount _ 2, rfl, .inr (by simp [GErr.num]), rfl, bl_refl _⟩
      · have e1 : subE a b = 0 := by unfold subE; rw [if_neg (by omega), if_neg h3]
        have e2 : subV a b = a - b := by unfold subV; rw [if_pos e1]
        rw [e1, e2]
        clear e1 e2
        go_enter Tryd.func14, Tryd.ntmps14
        go_wp2
        go_ret2
        exact ⟨.nil, rfl, .inl rfl, rfl, bl_refl _⟩

theorem refAdd_any (a b : Int) (ha : I64 a) (hb : I64 b) (w : World) : Calls Tryd.prog 11 #[.int .i64 a, .int .i64 b] w fun e w' => e = .returned (.tuple #[.int .i64 (addV a b), .int .i64 (addE a b)]) ∧ w = w' := by
  obtain ⟨ha1, ha2⟩ := ha
  obtain ⟨hb1, hb2⟩ := hb
  by_cases h1 : a < 0
  · have e1 : addE a b = 1 := if_pos (.inl h1)
    have e2 : addV a b = 0 := by unfold addV; rw [e1]; rfl
    rw [e1, e2]
    clear e1 e2
    go_enter Tryd.func11, Tryd.ntmps11
    go_wp2
    go_ret2
    exact ⟨rfl, rfl⟩
  · by_cases h2 : b < 0
    · have e1 : addE a b = 1 := if_pos (.inr h2)
      have e2 : addV a b = 0 := by unfold addV; rw [e1]; rfl
      rw [e1, e2]
      clear e1 e2
      go_enter Tryd.func11, Tryd.ntmps11
      go_wp2
      go_ret2
      exact ⟨rfl, rfl⟩
    · by_cases h3 : 9223372036854775807 < a + b
      · have e1 : addE a b = 9 := by unfold addE; rw [if_neg (by omega), if_pos h3]
        have e2 : addV a b = 0 := by unfold addV; rw [e1]; rfl
        rw [e1, e2]
        clear e1 e2
        have h4 : 9223372036854775807 - a < b := by omega
        go_enter Tryd.func11, Tryd.ntmps11
        go_wp2
        go_ret2
        exact ⟨rfl, rfl⟩
      · have e1 : addE a b = 0 := by unfold addE; rw [if_neg (by omega), if_neg h3]
        have e2 : addV a b = a + b := by unfold addV; rw [if_pos e1]
        rw [e1, e2]
        clear e1 e2
        have h4 : ¬ 9223372036854775807 - a < b := by omega
        have h5 : a + b ≤ 9223372036854775807 := by omega
        go_enter Tryd.func11, Tryd.ntmps11
        go_wp2
        go_ret2
        exact ⟨rfl, rfl⟩
theorem refSub_any (a b : Int) (ha : I64 a) (hb : I64 b) (w : World) : Calls Tryd.prog 12 #[.int .i64 a, .int .i64 b] w fun e w' => e = .returned (.tuple #[.int .i64 (subV a b), .int .i64 (subE a b)]) ∧ w = w' := by
  obtain ⟨ha1, ha2⟩ := ha
  obtain ⟨hb1, hb2⟩ := hb
  by_cases h1 : a < 0
  · have e1 : subE a b = 1 := if_pos (.inl h1)
    have e2 : subV a b = 0 := by unfold subV; rw [e1]; rfl
    rw [e1, e2]
    clear e1 e2
    go_enter Tryd.func12, Tryd.ntmps12
    go_wp2
    go_ret2
    exact ⟨rfl, rfl⟩
  · by_cases h2 : b < 0
    · have e1 : subE a b = 1 := if_pos (.inr h2)
      have e2 : subV a b = 0 := by unfold subV; rw [e1]; rfl
      rw [e1, e2]
      clear e1 e2
      go_enter Tryd.func12, Tryd.ntmps12
      go_wp2
      go_ret2
      exact ⟨rfl, rfl⟩
    · by_cases h3 : a < b
      · have e1 : subE a b = 2 := by unfold subE; rw [if_neg (by omega), if_pos h3]
        have e2 : subV a b = 0 := by unfold subV; rw [e1]; rfl
        rw [e1, e2]
        clear e1 e2
        go_enter Tryd.func12, Tryd.ntmps12
        go_wp2
        go_ret2
        exact ⟨rfl, rfl⟩
      · have e1 : subE a b = 0 := by unfold subE; rw [if_neg (by omega), if_neg h3]
        have e2 : subV a b = a - b := by unfold subV; rw [if_pos e1]
        rw [e1, e2]
        clear e1 e2
        go_enter Tryd.func12, Tryd.ntmps12
        go_wp2
        go_ret2
        exact ⟨rfl, rfl⟩

theorem plain_eq (E : GErr) (hE : E.ok) (k : Int) (hk : E.num = k) (w : World) (hg : ErrT w) : Calls Tryd.prog 15 #[E.val, .int .i64 k] w fun e w' => e = .returned (.bool true) ∧ Below w.heap.size w w' :=
  (plain_err E hE k w hg).mono fun e w' ⟨he, hb⟩ => ⟨by rw [he, decide_eq_true hk], hb⟩

theorem law_AmountSums (a b : Int) (ha : I64 a) (hb : I64 b) (w : World) (hg : ErrT w) : Calls Tryd.prog 3 #[.int .i64 a, .int .i64 b] w fun e w' => e = .returned (.bool true) ∧ Below w.heap.size w w' := by
  have HG := Lib.hid hg
  have q1 : (addV a b == addV a b) = true := beq_self_eq_true _
  have q2 : (subV a b == subV a b) = true := beq_self_eq_true _
  go_enter Tryd.func3, Tryd.ntmps3
  go_wp2_with (first | (go_at_call 11; refine (refAdd_any a b ha hb _).mono ?_; rintro e w1 ⟨rfl, rfl⟩) | (go_at_call 12; refine (refSub_any a b ha hb _).mono ?_; rintro e w1 ⟨rfl, rfl⟩) | (go_at_call 13; refine (add_any a b ha hb _).mono ?_; rintro e w1 ⟨E1, rfl, ok1, n1, hb1⟩; have N1 := Lib.hid n1; clear n1) | (go_at_call 14; refine (sub_any a b ha hb _).mono ?_; rintro e w2 ⟨E2, rfl, ok2, n2, hb2⟩; have N2 := Lib.hid n2; clear n2) | (go_at_call 15; (with_reducible refine (plain_eq E1 ok1 _ N1.out _ (HG.out.below (bl_then hb1 hb2))).mono ?_); rintro e w3 ⟨rfl, hb3⟩) | (go_at_call 15; (with_reducible refine (plain_eq E2 ok2 _ N2.out _ (HG.out.below (bl_then (bl_then hb1 hb2) hb3))).mono ?_); rintro e w4 ⟨rfl, hb4⟩))
  go_ret
  exact ⟨rfl, bl_then (bl_then (bl_then hb1 hb2) hb3) hb4⟩
end Go.Proofs.YtccnfklemalmeaaDoor
