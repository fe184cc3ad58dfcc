/- The law AmountBack by its walk. -/
import Derived.Test.YtccnfklemalmeaaDoorPointed
import Derived.Test.YtccnfklemalmeaaDoorSumImpl
import Derived.Test.YtccnfklemalmeaaDoorSums
import Derived.Deep.QuietTactic
import Derived.BigQuiet
set_option linter.unusedVariables false
set_option linter.unusedSimpArgs false
set_option maxRecDepth 100000
namespace Go.Proofs.YtccnfklemalmeaaDoor
open Go.RowKit Go.Proofs.YtccnfklemalmeaaDoor.Tp Go.Proofs.YtccnfklemalmeaaDoorW.PrintWords

theorem nil_of {E : GErr} (h : E.ok) (h0 : E.num = 0) : E = .nil := by
  rcases h with h | h
  · exact h
  · omega
theorem ne_nil_of {E : GErr} (h0 : ¬ E.num = 0) : E ≠ .nil := fun e => h0 (by rw [e]; rfl)
theorem fmt_le (n t : Nat) (hn : n ≤ 9223372036854775807) (ht : t ≤ 18) : (fmtV n t).size ≤ 100 := by
  unfold fmtV
  have h1 := revD_len19 n 0 1 hn
  have h2 := revD_len19 (n / 10 ^ t) 0 1 (Nat.le_trans (Nat.div_le_self _ _) hn)
  by_cases h0 : t = 0
  · rw [if_pos h0, strOfNums_size, List.length_reverse]
    omega
  · rw [if_neg h0, ByteArray.size_append, ByteArray.size_append, strOfNums_size, strOfNums_size, List.length_reverse, List.length_reverse, padD_len]
    have : (⟨#[46]⟩ : ByteArray).size = 1 := rfl
    omega
/-- Parse, where its answer is known: no error. -/
theorem amParse_nil {s : ByteArray} (hs : s.size ≤ 1048576) {t : Int} (ht : I64 t) {y : Int} (h : parR s t = (y, 0)) (w : World) : Calls Tryd.prog 47 #[.string s, .int .i64 t] w fun e w' => e = .returned (.tuple #[.int .i64 y, .nilIface]) ∧ Below w.heap.size w w' :=
  (amParse_any s hs t ht w).mono fun e w' ⟨E, he, ok, hE, hb⟩ => by
    rw [h] at he hE
    obtain rfl := nil_of ok hE
    exact ⟨he, hb⟩
theorem amParse_bad {s : ByteArray} (hs : s.size ≤ 1048576) {t : Int} (ht : I64 t) {y k : Int} (h : parR s t = (y, k)) (hk : ¬ k = 0) (w : World) : Calls Tryd.prog 47 #[.string s, .int .i64 t] w fun e w' => ∃ E : GErr, e = .returned (.tuple #[.int .i64 y, E.val]) ∧ E.ok ∧ E.num = k ∧ E ≠ .nil ∧ Below w.heap.size w w' :=
  (amParse_any s hs t ht w).mono fun e w' ⟨E, he, ok, hE, hb⟩ => by
    rw [h] at he hE
    exact ⟨E, he, ok, hE, ne_nil_of (by rw [hE]; exact hk), hb⟩
theorem retE_nil {x : Value} {w : World} {e : Ending} {w' : World} (h : RetE x 0 w e w') : e = .returned (.tuple #[x, .nilIface]) ∧ Below w.heap.size w w' := by
  obtain ⟨E, he, ok, hE, hb⟩ := h
  obtain rfl := nil_of ok hE
  exact ⟨he, hb⟩
theorem retE_bad {x : Value} {k : Int} (hk : ¬ k = 0) {w : World} {e : Ending} {w' : World} (h : RetE x k w e w') : ∃ E : GErr, e = .returned (.tuple #[x, E.val]) ∧ E ≠ .nil ∧ Below w.heap.size w w' := by
  obtain ⟨E, he, ok, hE, hb⟩ := h
  exact ⟨E, he, ne_nil_of (by rw [hE]; exact hk), hb⟩
theorem ne_false {E : GErr} (h : E ≠ .nil) (w : World) : (binOp .eql 25 E.val .nilIface).run Tryd.prog w = .ok (.bool false) w := by rw [eql_nil_err, GErr.isNil_false h]
theorem ne_true {E : GErr} (h : E ≠ .nil) (w : World) : (binOp .neq 25 E.val .nilIface).run Tryd.prog w = .ok (.bool true) w := by rw [neq_nil_err, GErr.isNil_false h]; rfl

theorem back_bad (w : World) (hg : ErrT w) (n m : Int) (s : ByteArray) (t : Int) (hn : I64 n) (hm : I64 m) (ht : I64 t) (hbad : n < 0 ∨ t < 0 ∨ 18 < t) :
    Calls Tryd.prog 10 #[.int .i64 n, .int .i64 m, .string s, .int .i64 t] w fun e w' => e = .returned (.bool true) ∧ Below w.heap.size w w' := by
  have HG := Lib.hid hg
  have H3 := Lib.hid (fun w => agFormat_any n t hn ht w)
  have hF : fmtR n t = (⟨#[]⟩, 1) := if_pos hbad
  rw [hF] at H3
  clear hg hF
  obtain ⟨hn1, hn2⟩ := hn
  obtain ⟨ht1, ht2⟩ := ht
  have hcase : n < 0 ∨ (¬ n < 0 ∧ t < 0) ∨ (¬ n < 0 ∧ ¬ t < 0 ∧ 18 < t) := by omega
  clear hbad
  rcases hcase with h1 | ⟨h1, h2⟩ | ⟨h1, h2, h3⟩
  all_goals
    go_enter Tryd.func10, Tryd.ntmps10
    go_wp2_with fail
    refine (H3.out _).mono ?_
    rintro e w3 ⟨E3, rfl, ok3, n3, hb3⟩
    have N3 := Lib.hid n3
    clear n3
    go_wp2_with fail
    refine (plain_eq E3 ok3 _ N3.out _ (HG.out.below hb3)).mono ?_
    rintro e w5 ⟨rfl, hb5⟩
    go_wp2
    go_ret
    exact ⟨rfl, bl_then hb3 hb5⟩

theorem addE0 {a b : Int} (h : addE a b = 0) : 0 ≤ a ∧ 0 ≤ b ∧ a + b ≤ 9223372036854775807 ∧ addV a b = a + b := by
  have hv : addV a b = a + b := if_pos h
  unfold addE at h
  split at h
  · omega
  · split at h <;> omega
theorem subE0 {a b : Int} (h : subE a b = 0) : 0 ≤ b ∧ b ≤ a ∧ subV a b = a - b := by
  have hv : subV a b = a - b := if_pos h
  unfold subE at h
  split at h
  · omega
  · split at h <;> omega
theorem add_ok {a b : Int} (ha : 0 ≤ a) (hb : 0 ≤ b) (h : a + b ≤ 9223372036854775807) : addE a b = 0 ∧ addV a b = a + b := by
  have e : addE a b = 0 := by unfold addE; rw [if_neg (by omega), if_neg (by omega)]
  exact ⟨e, if_pos e⟩
theorem sub_ok {a b : Int} (hb : 0 ≤ b) (h : b ≤ a) : subE a b = 0 ∧ subV a b = a - b := by
  have e : subE a b = 0 := by unfold subE; rw [if_neg (by omega), if_neg (by omega)]
  exact ⟨e, if_pos e⟩
/-- The three ways behind the texts. -/
theorem tails (n m : Int) (hn : 0 ≤ n ∧ n ≤ 9223372036854775807) (hm : I64 m) :
    (0 ≤ m ∧ addE n m = 0 ∧ addV n m = n + m ∧ I64 (n + m) ∧ subE (n + m) m = 0 ∧ subV (n + m) m = n ∧ sumE [n, m] = 0 ∧ sumV [n, m] = n + m) ∨
    (¬ addE n m = 0 ∧ ¬ subE n m = 0) ∨ (¬ addE n m = 0 ∧ subE n m = 0 ∧ subV n m = n - m ∧ I64 (n - m) ∧ addE (n - m) m = 0 ∧ addV (n - m) m = n) := by
  obtain ⟨hm1, hm2⟩ := hm
  by_cases h : addE n m = 0
  · obtain ⟨_, h1, h2, h3⟩ := addE0 h
    obtain ⟨h4, h5⟩ := sub_ok (a := n + m) (b := m) h1 (by omega)
    have e : theSum [n, m] = n + m := by simp [theSum]
    have e2 : sumE [n, m] = 0 := by unfold sumE; rw [e]; simp; omega
    exact .inl ⟨h1, h, h3, ⟨by omega, by omega⟩, h4, by rw [h5]; omega, e2, by unfold sumV; rw [e, if_pos ⟨by omega, by omega⟩]⟩
  · by_cases g : subE n m = 0
    · obtain ⟨h1, h2, h3⟩ := subE0 g
      obtain ⟨h4, h5⟩ := add_ok (a := n - m) (b := m) (by omega) h1 (by omega)
      exact .inr (.inr ⟨h, g, h3, ⟨by omega, by omega⟩, h4, by rw [h5]; omega⟩)
    · exact .inr (.inl ⟨h, g⟩)
end Go.Proofs.YtccnfklemalmeaaDoor
