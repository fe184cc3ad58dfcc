/- Joined texts of this proof: Codes, PlainG. -/
import Derived.LoopTactic
import Derived.Deep.LoopGhost
import Derived.Laws.RangeString
import Derived.Test.YtphabkaiheplpaaGreatDoorRests1
/- codes.is, codes.has, codes.Bic and the document's own, by contracts. -/
set_option linter.unusedVariables false
set_option linter.unusedSimpArgs false
set_option maxRecDepth 100000
namespace Go.Proofs.YtphabkaiheplpaaGreatDoor
open Go.RowKit

/-- A capital, a digit, either: by a form's letter (C, D, S). -/
def capI (c : Int) : Bool := decide (65 ≤ c) && decide (c ≤ 90)
def digI (c : Int) : Bool := decide (48 ≤ c) && decide (c ≤ 57)
def fitsI (f c : Int) : Bool := if f = 67 then capI c else if f = 68 then digI c else digI c || capI c
theorem ret_b {a b : Bool} (h : a = b) : Ending.returned (.bool a) = .returned (.bool b) := by rw [h]
theorem is_any (c f : Int) (hf : f = 67 ∨ f = 68 ∨ f = 83) (w : World) : Calls Tryz.prog 117 #[.int .u8 c, .int .i32 f] w fun e w' => e = .returned (.bool (fitsI f c)) ∧ w = w' := by
  rcases hf with rfl | rfl | rfl
  all_goals
    go_enter Tryz.func117, Tryz.ntmps117
    go_wp2
    all_goals go_ret
    all_goals exact ⟨ret_b (by first | (simp only [fitsI, capI, digI]; simp; omega) | (symm; simp only [fitsI, capI, digI]; simp; omega)), rfl⟩
theorem isDigit_any (c : Int) (w : World) : Calls Tryz.prog 157 #[.int .u8 c] w fun e w' => e = .returned (.bool (digI c)) ∧ w = w' := by
  go_enter Tryz.func157, Tryz.ntmps157
  go_wp2
  all_goals go_ret
  all_goals exact ⟨ret_b (by first | (simp only [fitsI, capI, digI]; simp; omega) | (symm; simp only [fitsI, capI, digI]; simp; omega)), rfl⟩
theorem isCapital_any (c : Int) (w : World) : Calls Tryz.prog 158 #[.int .u8 c] w fun e w' => e = .returned (.bool (capI c)) ∧ w = w' := by
  go_enter Tryz.func158, Tryz.ntmps158
  go_wp2
  all_goals go_ret
  all_goals exact ⟨ret_b (by first | (simp only [fitsI, capI, digI]; simp; omega) | (symm; simp only [fitsI, capI, digI]; simp; omega)), rfl⟩
theorem isSign_any (c : Int) (w : World) : Calls Tryz.prog 136 #[.int .u8 c] w fun e w' => e = .returned (.bool (digI c || capI c)) ∧ w = w' := by
  go_enter Tryz.func136, Tryz.ntmps136
  go_wp2_with (first | (go_at_call 157; refine (isDigit_any _ _).mono ?_; rintro e w1 ⟨rfl, rfl⟩) | (go_at_call 158; refine (isCapital_any _ _).mono ?_; rintro e w1 ⟨rfl, rfl⟩))
  all_goals go_ret
  all_goals exact ⟨ret_b (by simp [*]), rfl⟩
theorem fits_any (c f : Int) (hf : f = 67 ∨ f = 68 ∨ f = 83) (w : World) : Calls Tryz.prog 170 #[.int .u8 c, .int .u8 f] w fun e w' => e = .returned (.bool (fitsI f c)) ∧ w = w' := by
  rcases hf with rfl | rfl | rfl
  all_goals
    go_enter Tryz.func170, Tryz.ntmps170
    go_wp2_with (first | (go_at_call 157; refine (isDigit_any _ _).mono ?_; rintro e w1 ⟨rfl, rfl⟩) | (go_at_call 158; refine (isCapital_any _ _).mono ?_; rintro e w1 ⟨rfl, rfl⟩) | (go_at_call 136; refine (isSign_any _ _).mono ?_; rintro e w1 ⟨rfl, rfl⟩))
    all_goals go_ret
    all_goals exact ⟨ret_b (by simp [fitsI]), rfl⟩
end Go.Proofs.YtphabkaiheplpaaGreatDoor
/- custodykit.Num and custodykit.Plain by contracts over the errors that the program makes. -/
set_option linter.unusedVariables false
set_option linter.unusedSimpArgs false
set_option maxRecDepth 100000
namespace Go.Proofs.YtphabkaiheplpaaGreatDoor
open Go.RowKit

/-- errors.Is of such an error and a number. -/
theorem is_err (E : GErr) (hpl : E.plain = true) (m : Int) (hm : 1 ≤ m ∨ E ≠ .nil) (w : World) (b : Bool) (hb : decide (E.num = m) = b) :
    Calls Tryz.prog 31 #[E.val, .iface 84 (.int .i64 m)] w fun e w' => e = .returned (.bool b) ∧ Below w.heap.size w w' := by
  subst hb
  cases E with
  | nil =>
    have : decide ((GErr.nil).num = m) = false := by
      rcases hm with hm | hm
      · exact decide_eq_false fun h => by simp only [GErr.num] at h; omega
      · exact absurd rfl hm
    rw [this]
    exact (is_nil m w).mono fun e w' ⟨he, hw⟩ => ⟨he, hw ▸ bl_refl w⟩
  | no n =>
    by_cases h : n = m
    · simp only [GErr.num, h, decide_true]
      exact (is_no_yes m m w rfl).mono fun e w' ⟨he, hw⟩ => ⟨he, hw ▸ bl_refl w⟩
    · simp only [GErr.num, h, decide_false]
      exact (is_no_no n m w h).mono fun e w' ⟨he, hw⟩ => ⟨he, hw ▸ bl_refl w⟩
  | fault n r a => cases hpl
  | codes s n =>
    by_cases h : n = m
    · simp only [GErr.num, h, decide_true]
      exact is_codes_yes s m m w rfl
    · simp only [GErr.num, h, decide_false]
      exact is_codes_no s n m w h
  | mtch s n =>
    by_cases h : n = m
    · simp only [GErr.num, h, decide_true]
      exact is_mtch_yes s m m w rfl
    · simp only [GErr.num, h, decide_false]
      exact is_mtch_no s n m w h
  | notice s n =>
    by_cases h : n = m
    · simp only [GErr.num, h, decide_true]
      exact is_notice_yes s m m w rfl
    · simp only [GErr.num, h, decide_false]
      exact is_notice_no s n m w h
theorem as_err (E : GErr) (hpl : E.plain = true) (hE : E ≠ .nil) (t : Addr) (w : World) (hg : ErrT w) :
    Calls Tryz.prog 75 #[E.val, .iface 153 (.pointer (some t))] w fun e w' => e = .returned (.bool false) ∧ Below w.heap.size w w' := by
  cases E with
  | nil => exact absurd rfl hE
  | no n => exact as_false _ _ t w hg fun c0 c1 c2 W => as0_no n _ W c0 c1 c2
  | fault n r a => cases hpl
  | codes s n => exact as_false _ _ t w hg fun c0 c1 c2 W => as0_codes s n _ W c0 c1 c2
  | mtch s n => exact as_false _ _ t w hg fun c0 c1 c2 W => as0_mtch s n _ W c0 c1 c2
  | notice s n => exact as_false _ _ t w hg fun c0 c1 c2 W => as0_notice s n _ W c0 c1 c2
theorem num_nil (w : World) : Calls Tryz.prog 74 #[.nilIface] w fun e w' => e = .returned (.int .i64 0) ∧ w = w' := by
  go_enter Tryz.func74, Tryz.ntmps74
  go_wp2
  go_ret
  exact ⟨rfl, rfl⟩
def FoundIs (E : GErr) (k : Nat) (v : Value) : Prop := v = .int .i64 (if E.num < k then E.num else 0)
theorem found_next {E : GErr} {k : Nat} (he : ¬ E.num = k) : FoundIs E (k + 1) (.int .i64 (if E.num < k then E.num else 0)) := by
  unfold FoundIs
  by_cases h : E.num < k
  · rw [if_pos h, if_pos (by omega)]
  · rw [if_neg h, if_neg (by omega)]
theorem num_err (E : GErr) (hpl : E.plain = true) (hE : E ≠ .nil) (hr : 1 ≤ E.num ∧ E.num ≤ 24) (w : World) : Calls Tryz.prog 74 #[E.val] w fun e w' => e = .returned (.int .i64 E.num) ∧ Below w.heap.size w w' := by
  have hne : ∀ w, (binOp .eql 36 E.val .nilIface).run Tryz.prog w = .ok (.bool false) w := fun w => by rw [eql_nil_err, GErr.isNil_false hE]
  have hgd := guard_err E
  obtain ⟨h1, h2⟩ := hr
  go_enter Tryz.func74, Tryz.ntmps74
  go_wp2
  have hE0 : E.num ≠ 0 := by omega
  go_loopw [3, 4] (fun f i wr => ∃ k : Nat, 1 ≤ k ∧ k ≤ 25 ∧ i = .int .i64 k ∧ FoundIs E k f ∧ Below w.heap.size w wr) (fun _ i _ => 25 - (intOf i).toNat)
  case atStart => exact ⟨1, by omega, by omega, rfl, by unfold FoundIs; rw [if_neg (by omega)], bl_refl w⟩
  case round =>
    obtain ⟨k, hk1, hk2, rfl, hf, hb⟩ := hrel
    unfold FoundIs at hf
    by_cases hlt : k ≤ 24
    · by_cases he : E.num = k
      · rw [if_neg (by omega)] at hf
        subst hf
        go_wp2_with (go_at_call 31; refine (is_err E hpl k (.inr hE) _ true (by simp [he])).mono ?_; rintro e w1 ⟨rfl, hb1⟩)
        go_roundw
        case rel => exact ⟨k + 1, by omega, by omega, by go_num, by unfold FoundIs; rw [if_pos (by omega), he], bl_then hb hb1⟩
        case measure => simp [intOf]; omega
      · go_wp2_with (go_at_call 31; refine (is_err E hpl k (.inr hE) _ false (by simp [he])).mono ?_; rintro e w1 ⟨rfl, hb1⟩)
        go_roundw
        case rel => exact ⟨k + 1, by omega, by omega, by go_num, found_next he, bl_then hb hb1⟩
        case measure => simp [intOf]; omega
    · obtain rfl : k = 25 := by omega
      rw [if_pos (by omega)] at hf
      subst hf
      have hz : (E.num == 0) = false := by simp [hE0]
      go_wp2_with (go_at_call 31; refine (is_err E hpl 0 (.inr hE) _ false (by simp [hE0])).mono ?_; rintro e w1 ⟨rfl, hb1⟩)
      go_ret
      exact ⟨rfl, bl_then hb hb1⟩
theorem plain_err (E : GErr) (hpl : E.plain = true) (hE : E.ok) (k : Int) (w : World) (hg : ErrT w) : Calls Tryz.prog 42 #[E.val, .int .i64 k] w fun e w' => e = .returned (.bool (decide (E.num = k))) ∧ Below w.heap.size w w' := by
  rcases hE with rfl | hr
  · by_cases h0 : k = 0
    · subst h0
      show Calls Tryz.prog 42 #[.nilIface, .int .i64 0] w _
      go_enter Tryz.func42, Tryz.ntmps42
      go_wp2_with (go_at_call 74; refine (num_nil _).mono ?_; rintro e w1 ⟨rfl, rfl⟩)
      go_ret
      exact ⟨rfl, bl_alloc (bl_refl _) _⟩
    · have hk : ((0 : Int) == k) = false := beq_eq_false_iff_ne.2 fun h => h0 h.symm
      have hk' : decide ((GErr.nil).num = k) = false := decide_eq_false fun h => h0 h.symm
      rw [hk']
      show Calls Tryz.prog 42 #[.nilIface, .int .i64 k] w _
      go_enter Tryz.func42, Tryz.ntmps42
      go_wp2_with (go_at_call 74; refine (num_nil _).mono ?_; rintro e w1 ⟨rfl, rfl⟩)
      go_ret
      exact ⟨rfl, bl_alloc (bl_refl _) _⟩
  · have hE : E ≠ .nil := by rintro rfl; simp [GErr.num] at hr
    have hne : ∀ w, (binOp .eql 36 E.val .nilIface).run Tryz.prog w = .ok (.bool false) w := fun w => by rw [eql_nil_err, GErr.isNil_false hE]
    have hgd := guard_err E
    by_cases h0 : E.num = k
    · subst h0
      have hk : (E.num == E.num) = true := by simp
      have hk' : decide (E.num = E.num) = true := by simp
      rw [hk']
      have hg1 := hg.below (bl_alloc (bl_refl w) (.cells #[.int .i64 0, .int .i64 0, .int .i64 0] 150))
      go_enter Tryz.func42, Tryz.ntmps42
      go_wp2_with (first | (go_at_call 74; refine (num_err E hpl hE hr _).mono ?_; rintro e w1 ⟨rfl, hb⟩; have hg2 := hg1.below hb) | (go_at_call 75; refine (as_err E hpl hE _ _ hg2).mono ?_; rintro e w2 ⟨rfl, hb2⟩))
      go_ret
      exact ⟨rfl, bl_then (bl_then (bl_alloc (bl_refl _) _) hb) hb2⟩
    · have hk : (E.num == k) = false := by simp [h0]
      have hk' : decide (E.num = k) = false := by simp [h0]
      rw [hk']
      go_enter Tryz.func42, Tryz.ntmps42
      go_wp2_with (go_at_call 74; refine (num_err E hpl hE hr _).mono ?_; rintro e w1 ⟨rfl, hb⟩)
      go_ret
      exact ⟨rfl, bl_then (bl_alloc (bl_refl _) _) hb⟩
end Go.Proofs.YtphabkaiheplpaaGreatDoor
