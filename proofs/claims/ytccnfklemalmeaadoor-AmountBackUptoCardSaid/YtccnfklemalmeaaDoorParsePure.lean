/- A text as a number, in plain Lean: the first point, the digits, the value within its bounds; the document's reading is that. -/
import Derived.Test.YtccnfklemalmeaaDoorTextPure
set_option linter.unusedVariables false
set_option linter.unusedSimpArgs false
namespace Go.Proofs.YtccnfklemalmeaaDoor.Tp
open Go.RowKit Go.Proofs.YtccnfklemalmeaaDoor.PAmountTexts Go.Proofs.YtccnfklemalmeaaDoorW.PrintWords

def isD (c : UInt8) : Bool := decide (48 ≤ c.toNat ∧ c.toNat ≤ 57)
/-- Ahead of the first point, behind it. -/
def cutP : List UInt8 → List UInt8 × List UInt8
  | [] => ([], [])
  | c :: r => if c = 46 then ([], r) else (c :: (cutP r).1, (cutP r).2)
def num : List UInt8 → Nat → Nat → Nat → Nat × Bool
  | [], d, b, p => (b, decide (0 < d ∧ p ≤ 1))
  | c :: r, d, b, p => if c = 46 then num r d b (p + 1) else if isD c = false then (0, false) else num r (d + 1) (if 0 < p then b + 1 else b) p
theorem isD_46 : isD 46 = false := by decide
theorem num_behind : ∀ (l : List UInt8) (d b p : Nat), 1 ≤ p → (num l d b p).2 = decide (l.all isD = true ∧ 0 < d + l.length ∧ p ≤ 1) ∧ ((num l d b p).2 = true → (num l d b p).1 = b + l.length) := by
  intro l
  induction l with
  | nil => intro d b p hp; simp [num]
  | cons c r ih =>
    intro d b p hp
    by_cases h1 : c = 46
    · subst h1
      obtain ⟨e, _⟩ := ih d b (p + 1) (by omega)
      have e0 : (num (46 :: r) d b p) = num r d b (p + 1) := by rw [num, if_pos rfl]
      have e1 : (num r d b (p + 1)).2 = false := by rw [e]; exact decide_eq_false (by omega)
      rw [e0, e1]
      refine ⟨?_, fun h => by cases h⟩
      simp [isD_46]
    · by_cases h2 : isD c = false
      · have e0 : (num (c :: r) d b p) = (0, false) := by rw [num, if_neg h1, if_pos h2]
        rw [e0]
        refine ⟨?_, fun h => by cases h⟩
        simp [h2]
      · have h2' : isD c = true := by simpa using h2
        have e0 : (num (c :: r) d b p) = num r (d + 1) (b + 1) p := by rw [num, if_neg h1, if_neg h2, if_pos (by omega)]
        obtain ⟨e, f⟩ := ih (d + 1) (b + 1) p hp
        rw [e0]
        refine ⟨?_, fun h => ?_⟩
        · rw [e]
          congr 1
          simp only [List.all_cons, h2', Bool.true_and, List.length_cons]
          rw [show d + 1 + r.length = d + (r.length + 1) by omega]
        · rw [f h, List.length_cons]; omega
theorem num_ahead : ∀ (l : List UInt8) (d b : Nat), (num l d b 0).2 = decide (((cutP l).1 ++ (cutP l).2).all isD = true ∧ 0 < d + ((cutP l).1 ++ (cutP l).2).length) ∧ ((num l d b 0).2 = true → (num l d b 0).1 = b + (cutP l).2.length) := by
  intro l
  induction l with
  | nil => intro d b; simp [num, cutP]
  | cons c r ih =>
    intro d b
    by_cases h1 : c = 46
    · subst h1
      have e0 : (num (46 :: r) d b 0) = num r d b 1 := by rw [num, if_pos rfl]
      have e1 : cutP (46 :: r) = ([], r) := by rw [cutP, if_pos rfl]
      obtain ⟨e, f⟩ := num_behind r d b 1 (by omega)
      rw [e0, e1]
      refine ⟨?_, f⟩
      rw [e]
      congr 1
      simp
    · have e1 : cutP (c :: r) = (c :: (cutP r).1, (cutP r).2) := by rw [cutP, if_neg h1]
      by_cases h2 : isD c = false
      · have e0 : (num (c :: r) d b 0) = (0, false) := by rw [num, if_neg h1, if_pos h2]
        rw [e0, e1]
        refine ⟨?_, fun h => by cases h⟩
        simp [h2]
      · have h2' : isD c = true := by simpa using h2
        have e0 : (num (c :: r) d b 0) = num r (d + 1) b 0 := by rw [num, if_neg h1, if_neg h2, if_neg (by omega)]
        obtain ⟨e, f⟩ := ih (d + 1) b
        rw [e0, e1]
        refine ⟨?_, f⟩
        rw [e]
        congr 1
        simp only [List.cons_append, List.all_cons, h2', Bool.true_and, List.length_cons]
        rw [show d + 1 + ((cutP r).1 ++ (cutP r).2).length = d + (((cutP r).1 ++ (cutP r).2).length + 1) by omega]
/-- The value of digits behind n; none: it is too great. -/
def val : List UInt8 → Nat → Option Nat
  | [], n => some n
  | c :: r, n => if (9223372036854775807 - (c.toNat - 48)) / 10 < n then none else val r (10 * n + (c.toNat - 48))
theorem val_le : ∀ (l : List UInt8) (n m : Nat), n ≤ 9223372036854775807 → l.all isD = true → val l n = some m → m ≤ 9223372036854775807 := by
  intro l
  induction l with
  | nil => intro n m hn _ h; simp only [val] at h; injection h with h; omega
  | cons c r ih =>
    intro n m hn hd h
    simp only [List.all_cons, Bool.and_eq_true] at hd
    have hc := of_decide_eq_true hd.1
    rw [val] at h
    by_cases hg : (9223372036854775807 - (c.toNat - 48)) / 10 < n
    · rw [if_pos hg] at h; cases h
    · rw [if_neg hg] at h
      exact ih _ m (by omega) hd.2 h
theorem wsucc (i : Nat) (h : i ≤ 4611686018427387904) : wrap64 ((i : Int) + 1) = ((i + 1 : Nat) : Int) := by unfold wrap64; omega
/-- bytes of a text -/
theorem bt_list (s : ByteArray) (i : Nat) (h : i < s.size) : ∃ c : UInt8, s.data.toList[i]? = some c ∧ bt s (i : Int) = (c.toNat : Int) := by
  refine ⟨s[i], ?_, ?_⟩
  · rw [List.getElem?_eq_getElem (by simpa using h)]; rfl
  · unfold bt
    rw [dif_pos (by simpa using h)]
    simp
theorem refNumeral (s : ByteArray) (hs : s.size ≤ 4611686018427387904) (d : Nat) : ∀ (i k dg b p : Nat), i + d = s.size → 2 * d < k → dg ≤ i → b ≤ i → p ≤ i →
    custodyref01_Numeral.l0 k s (dg : Int) (b : Int) (p : Int) (i : Int) = some (((num (s.data.toList.drop i) dg b p).1 : Int), (num (s.data.toList.drop i) dg b p).2) := by
  induction d with
  | zero =>
    intro i k dg b p hi hk h1 h2 h3
    obtain ⟨k, rfl⟩ : ∃ j, k = j + 1 := ⟨k - 1, by omega⟩
    have hl : s.data.toList.drop i = [] := List.drop_eq_nil_of_le (by simp; omega)
    rw [custodyref01_Numeral.l0, if_neg (by omega), hl, num]
    by_cases h0 : (dg : Int) > 0
    · rw [if_pos h0]
      congr 2
      exact decide_eq_decide.2 (by omega)
    · rw [if_neg h0]
      congr 2
      exact (decide_eq_false (by omega)).symm
  | succ d ih =>
    intro i k dg b p hi hk h1 h2 h3
    obtain ⟨k, rfl⟩ : ∃ j, k = j + 2 := ⟨k - 2, by omega⟩
    obtain ⟨c, hc, hb⟩ := bt_list s i (by omega)
    have hl : s.data.toList.drop i = c :: s.data.toList.drop (i + 1) := by
      have hlt : i < s.data.toList.length := by simp; omega
      rw [List.getElem?_eq_getElem hlt] at hc
      rw [List.drop_eq_getElem_cons hlt]
      congr 1
      exact Option.some.inj hc
    have hcr := c.toNat_lt
    have hi1 : i ≤ 4611686018427387904 := by omega
    have hd1 : dg ≤ 4611686018427387904 := by omega
    have hb1 : b ≤ 4611686018427387904 := by omega
    have hp1 : p ≤ 4611686018427387904 := by omega
    have q1 : (i : Int) < (s.size : Int) := by omega
    have q2 : (0 : Int) ≤ (i : Int) := by omega
    rw [custodyref01_Numeral.l0, if_pos q1, if_pos q2, hb, hl, num, wsucc i hi1]
    clear hb hc hl q1 q2
    by_cases g1 : c = 46
    · subst g1
      rw [if_pos (show ((46 : UInt8).toNat : Int) = 46 from rfl), if_pos rfl, wsucc p hp1]
      exact ih (i + 1) (k + 1) dg b (p + 1) (by omega) (by omega) (by omega) (by omega) (by omega)
    · have g1' : ¬ (c.toNat : Int) = 46 := fun e => g1 (UInt8.toNat_inj.1 (by have : c.toNat = 46 := by omega
                                                                              rw [this]; rfl))
      rw [if_neg g1', if_neg g1]
      have hj : ∀ q : Bool, q = true → custodyref01_Numeral.j1 (k + 1) s (dg : Int) (b : Int) (p : Int) (i : Int) q = some (0, false) := fun q hq => by rw [custodyref01_Numeral.j1, if_pos hq]
      by_cases g2 : isD c = false
      · rw [if_pos g2]
        have g3 := of_decide_eq_false g2
        by_cases g4 : (c.toNat : Int) < 48
        · rw [if_pos g4, hj true rfl]; rfl
        · rw [if_neg g4, hj _ (decide_eq_true (show (c.toNat : Int) > 57 by omega))]; rfl
      · have g3 : isD c = true := by simpa using g2
        have g3 := of_decide_eq_true g3
        rw [if_neg g2, if_neg (show ¬ (c.toNat : Int) < 48 by omega), decide_eq_false (show ¬ (c.toNat : Int) > 57 by omega), custodyref01_Numeral.j1, if_neg (by decide), wsucc dg hd1, wsucc b hb1, wsucc i hi1]
        by_cases g5 : 0 < p
        · rw [if_pos (by omega), if_pos g5]
          exact ih (i + 1) k (dg + 1) (b + 1) p (by omega) (by omega) (by omega) (by omega) (by omega)
        · rw [if_neg (by omega), if_neg g5]
          exact ih (i + 1) k (dg + 1) b p (by omega) (by omega) (by omega) (by omega) (by omega)
/-- digits and points alone: what the document's last loop goes over -/
def nodot (l : List UInt8) : List UInt8 := l.filter fun c => c != 46
theorem refValue (s : ByteArray) (hs : s.size ≤ 4611686018427387904) (hok : ∀ c, c ∈ s.data.toList → c = 46 ∨ isD c = true) (d : Nat) : ∀ (i k n : Nat), i + d = s.size → d < k → n ≤ 9223372036854775807 →
    custodyref01_Parse.l1 k s (n : Int) (i : Int) = some (match val (nodot (s.data.toList.drop i)) n with | none => (0, 9) | some m => ((m : Int), 0)) := by
  induction d with
  | zero =>
    intro i k n hi hk hn
    obtain ⟨k, rfl⟩ : ∃ j, k = j + 1 := ⟨k - 1, by omega⟩
    have hl : s.data.toList.drop i = [] := List.drop_eq_nil_of_le (by simp; omega)
    rw [custodyref01_Parse.l1, if_neg (by omega), hl]
    rfl
  | succ d ih =>
    intro i k n hi hk hn
    obtain ⟨k, rfl⟩ : ∃ j, k = j + 1 := ⟨k - 1, by omega⟩
    obtain ⟨c, hc, hb⟩ := bt_list s i (by omega)
    have hl : s.data.toList.drop i = c :: s.data.toList.drop (i + 1) := by
      have hlt : i < s.data.toList.length := by simp; omega
      rw [List.getElem?_eq_getElem hlt] at hc
      rw [List.drop_eq_getElem_cons hlt]
      congr 1
      exact Option.some.inj hc
    have hm := hok c (List.mem_of_getElem? hc)
    have hi1 : i ≤ 4611686018427387904 := by omega
    have q1 : (i : Int) < (s.size : Int) := by omega
    have q2 : (0 : Int) ≤ (i : Int) := by omega
    rw [custodyref01_Parse.l1, if_pos q1, if_pos q2, hb, hl, wsucc i hi1]
    clear hb hc hl q1 q2
    by_cases g1 : c = 46
    · subst g1
      rw [if_pos (show ((46 : UInt8).toNat : Int) = 46 from rfl)]
      exact ih (i + 1) k n (by omega) (by omega) hn
    · have hd := of_decide_eq_true (hm.resolve_left g1)
      have e1 : nodot (c :: s.data.toList.drop (i + 1)) = c :: nodot (s.data.toList.drop (i + 1)) := by simp [nodot, g1]
      rw [if_neg (show ¬ (c.toNat : Int) = 46 by omega), e1, val]
      have e2 : ((c.toNat : Int) - 48) % 256 = ((c.toNat - 48 : Nat) : Int) := by omega
      rw [e2]
      by_cases g2 : (9223372036854775807 - (c.toNat - 48)) / 10 < n
      · rw [if_pos g2, if_pos (by omega)]
      · rw [if_neg g2, if_neg (by omega), w64 (x := 10 * (n : Int)) (by omega) (by omega), w64 (by omega) (by omega)]
        have := ih (i + 1) k (10 * n + (c.toNat - 48)) (by omega) (by omega) (by omega)
        rw [← this]
        congr 1
end Go.Proofs.YtccnfklemalmeaaDoor.Tp
