/- The words of a line, as one plain function of its bytes: a hex digit's value, what is quoted, the words to their end. -/
import Derived.Test.YtccnfklemalmeaaDoorWMore
set_option linter.unusedVariables false
set_option linter.unusedSimpArgs false
namespace Go.Proofs.YtccnfklemalmeaaDoor.Dw
open Go.Proofs.YtccnfklemalmeaaDoorW.PrintWords

def hexv (c : Int) : Int := if 48 ≤ c ∧ c ≤ 57 then c - 48 else if 97 ≤ c ∧ c ≤ 102 then c - 87 else if 65 ≤ c ∧ c ≤ 70 then c - 55 else 16
theorem hexv_range (c : Int) : 0 ≤ hexv c ∧ hexv c ≤ 16 := by
  unfold hexv
  by_cases h1 : 48 ≤ c ∧ c ≤ 57
  · rw [if_pos h1]; omega
  · rw [if_neg h1]
    by_cases h2 : 97 ≤ c ∧ c ≤ 102
    · rw [if_pos h2]; omega
    · rw [if_neg h2]
      by_cases h3 : 65 ≤ c ∧ c ≤ 70
      · rw [if_pos h3]; omega
      · rw [if_neg h3]; omega
theorem or16 : ∀ a : Fin 16, ∀ b : Fin 16, Go.bits .or .u8 ((a.val : Int) * 16) (b.val : Int) = 16 * (a.val : Int) + (b.val : Int) := by decide +kernel
theorem or_nib (a b : Int) (ha0 : 0 ≤ a) (ha1 : a < 16) (hb0 : 0 ≤ b) (hb1 : b < 16) : Go.bits .or .u8 (a * 16) b = 16 * a + b := by
  obtain ⟨m, rfl⟩ := Int.eq_ofNat_of_zero_le ha0
  obtain ⟨n, rfl⟩ := Int.eq_ofNat_of_zero_le hb0
  exact or16 ⟨m, by omega⟩ ⟨n, by omega⟩
theorem bt_tail (s : ByteArray) (o j : Nat) (h1 : o + j < s.size) : bt (s.extract o s.size) (j : Int) = bt s ((o + j : Nat) : Int) := by
  unfold bt
  rw [dif_pos (show ((j : Nat) : Int).toNat < (s.extract o s.size).size by simp; omega), dif_pos (show ((o + j : Nat) : Int).toNat < s.size by omega)]
  simp only [Int.toNat_natCast, ByteArray.getElem_extract]

/-- A byte that parts words. -/
def blankB (c : Int) : Bool := decide (c = 32 ∨ c = 9 ∨ c = 13)
/-- What is quoted from a place on (behind the mark), and the place behind the closing mark. -/
def quoteAt (s : ByteArray) (k : Nat) : Option (List Int × Nat) :=
  if k < s.size then
    if bt s k = 34 then some ([], k + 1)
    else if bt s k = 10 then none
    else if bt s k = 92 then
      if k + 1 < s.size then
        if bt s (k + 1 : Nat) = 34 ∨ bt s (k + 1 : Nat) = 92 then (quoteAt s (k + 2)).map fun p => (bt s (k + 1 : Nat) :: p.1, p.2)
        else if bt s (k + 1 : Nat) = 110 then (quoteAt s (k + 2)).map fun p => (10 :: p.1, p.2)
        else if bt s (k + 1 : Nat) = 120 ∧ k + 3 < s.size ∧ hexv (bt s (k + 2 : Nat)) < 16 ∧ hexv (bt s (k + 3 : Nat)) < 16 then
          (quoteAt s (k + 4)).map fun p => ((16 * hexv (bt s (k + 2 : Nat)) + hexv (bt s (k + 3 : Nat))) :: p.1, p.2)
        else none
      else none
    else (quoteAt s (k + 1)).map fun p => (bt s k :: p.1, p.2)
  else none
termination_by s.size - k
decreasing_by all_goals omega
theorem quote_end (s : ByteArray) : ∀ d k : Nat, s.size - k = d → ∀ p, quoteAt s k = some p → k < p.2 ∧ p.2 ≤ s.size ∧ p.1.length < p.2 - k := by
  intro d
  induction d using Nat.strongRecOn with
  | ind d ih =>
    intro k hd p hp
    rw [quoteAt] at hp
    have go : ∀ (j : Nat) (c : Int), k < j → k < s.size → ((quoteAt s j).map fun p => (c :: p.1, p.2)) = some p → k < p.2 ∧ p.2 ≤ s.size ∧ p.1.length < p.2 - k := by
      intro j c hj hk h
      obtain ⟨q, hq, rfl⟩ := Option.map_eq_some_iff.1 h
      by_cases hj2 : j < s.size
      · have := ih (s.size - j) (by omega) j rfl q hq
        simp only [List.length_cons]
        omega
      · rw [quoteAt, if_neg hj2] at hq
        cases hq
    by_cases h1 : k < s.size
    · rw [if_pos h1] at hp
      by_cases h2 : bt s k = 34
      · rw [if_pos h2] at hp
        injection hp with hp
        subst hp
        simp
        omega
      · rw [if_neg h2] at hp
        by_cases h3 : bt s k = 10
        · rw [if_pos h3] at hp; cases hp
        · rw [if_neg h3] at hp
          by_cases h4 : bt s k = 92
          · rw [if_pos h4] at hp
            by_cases h5 : k + 1 < s.size
            · rw [if_pos h5] at hp
              by_cases h6 : bt s (k + 1 : Nat) = 34 ∨ bt s (k + 1 : Nat) = 92
              · rw [if_pos h6] at hp; exact go _ _ (by omega) h1 hp
              · rw [if_neg h6] at hp
                by_cases h7 : bt s (k + 1 : Nat) = 110
                · rw [if_pos h7] at hp; exact go _ _ (by omega) h1 hp
                · rw [if_neg h7] at hp
                  by_cases h8 : bt s (k + 1 : Nat) = 120 ∧ k + 3 < s.size ∧ hexv (bt s (k + 2 : Nat)) < 16 ∧ hexv (bt s (k + 3 : Nat)) < 16
                  · rw [if_pos h8] at hp; exact go _ _ (by omega) h1 hp
                  · rw [if_neg h8] at hp; cases hp
            · rw [if_neg h5] at hp; cases hp
          · rw [if_neg h4] at hp; exact go _ _ (by omega) h1 hp
    · rw [if_neg h1] at hp; cases hp
/-- The answer of a reading that has gathered acc up to k. -/
def QEnds (s : ByteArray) (R : Option (List Int × Nat)) (acc : List Int) (k : Nat) : Prop := (quoteAt s k).map (fun p => (acc ++ p.1, p.2)) = R
theorem q_start (s : ByteArray) (k : Nat) : QEnds s (quoteAt s k) [] k := by unfold QEnds; cases quoteAt s k <;> simp
theorem q_step {s : ByteArray} {R : Option (List Int × Nat)} {acc : List Int} {k j : Nat} {c : Int} (h : QEnds s R acc k) (e : quoteAt s k = (quoteAt s j).map fun p => (c :: p.1, p.2)) : QEnds s R (acc ++ [c]) j := by
  unfold QEnds at h ⊢
  rw [e] at h
  rw [← h]
  cases quoteAt s j <;> simp
theorem q_none {s : ByteArray} {R : Option (List Int × Nat)} {acc : List Int} {k : Nat} (h : QEnds s R acc k) (e : quoteAt s k = none) : R = none := by
  unfold QEnds at h
  rw [e] at h
  exact h.symm
theorem q_done {s : ByteArray} {R : Option (List Int × Nat)} {acc : List Int} {k : Nat} (h : QEnds s R acc k) (h1 : k < s.size) (h2 : bt s k = 34) : R = some (acc, k + 1) := by
  unfold QEnds at h
  rw [quoteAt, if_pos h1, if_pos h2] at h
  simpa using h.symm
theorem q_over {s : ByteArray} {k : Nat} (h1 : ¬ k < s.size) : quoteAt s k = none := by rw [quoteAt, if_neg h1]
theorem q_line {s : ByteArray} {k : Nat} (h1 : k < s.size) (h3 : bt s k = 10) : quoteAt s k = none := by rw [quoteAt, if_pos h1, if_neg (by omega), if_pos h3]
theorem q_plain {s : ByteArray} {k : Nat} (h1 : k < s.size) (h2 : bt s k ≠ 34) (h3 : bt s k ≠ 10) (h4 : bt s k ≠ 92) : quoteAt s k = (quoteAt s (k + 1)).map fun p => (bt s k :: p.1, p.2) := by
  rw [quoteAt, if_pos h1, if_neg h2, if_neg h3, if_neg h4]
theorem q_cut {s : ByteArray} {k : Nat} (h1 : k < s.size) (h4 : bt s k = 92) (h5 : ¬ k + 1 < s.size) : quoteAt s k = none := by rw [quoteAt, if_pos h1, if_neg (by omega), if_neg (by omega), if_pos h4, if_neg h5]
theorem q_self {s : ByteArray} {k : Nat} (h5 : k + 1 < s.size) (h4 : bt s k = 92) (h6 : bt s (k + 1 : Nat) = 34 ∨ bt s (k + 1 : Nat) = 92) : quoteAt s k = (quoteAt s (k + 2)).map fun p => (bt s (k + 1 : Nat) :: p.1, p.2) := by
  rw [quoteAt, if_pos (by omega), if_neg (by omega), if_neg (by omega), if_pos h4, if_pos h5, if_pos h6]
theorem q_new {s : ByteArray} {k : Nat} (h5 : k + 1 < s.size) (h4 : bt s k = 92) (h7 : bt s (k + 1 : Nat) = 110) : quoteAt s k = (quoteAt s (k + 2)).map fun p => (10 :: p.1, p.2) := by
  rw [quoteAt, if_pos (by omega), if_neg (by omega), if_neg (by omega), if_pos h4, if_pos h5, if_neg (by omega), if_pos h7]
theorem q_hex {s : ByteArray} {k : Nat} (h5 : k + 3 < s.size) (h4 : bt s k = 92) (h7 : bt s (k + 1 : Nat) = 120) (h8 : hexv (bt s (k + 2 : Nat)) < 16) (h9 : hexv (bt s (k + 3 : Nat)) < 16) :
    quoteAt s k = (quoteAt s (k + 4)).map fun p => ((16 * hexv (bt s (k + 2 : Nat)) + hexv (bt s (k + 3 : Nat))) :: p.1, p.2) := by
  rw [quoteAt, if_pos (by omega), if_neg (by omega), if_neg (by omega), if_pos h4, if_pos (by omega), if_neg (by omega), if_neg (by omega), if_pos ⟨h7, h5, h8, h9⟩]
theorem q_bad {s : ByteArray} {k : Nat} (h5 : k + 1 < s.size) (h4 : bt s k = 92) (h6 : ¬ (bt s (k + 1 : Nat) = 34 ∨ bt s (k + 1 : Nat) = 92)) (h7 : bt s (k + 1 : Nat) ≠ 110) (h8 : ¬ (bt s (k + 1 : Nat) = 120 ∧ k + 3 < s.size ∧ hexv (bt s (k + 2 : Nat)) < 16 ∧ hexv (bt s (k + 3 : Nat)) < 16)) : quoteAt s k = none := by
  rw [quoteAt, if_pos (by omega), if_neg (by omega), if_neg (by omega), if_pos h4, if_pos h5, if_neg h6, if_neg h7, if_neg h8]
/-- The same of a tail of the text. -/
theorem quote_tail (s : ByteArray) (o : Nat) (ho : o ≤ s.size) : ∀ d k : Nat, s.size - (o + k) = d → quoteAt (s.extract o s.size) k = (quoteAt s (o + k)).map fun p => (p.1, p.2 - o) := by
  intro d
  induction d using Nat.strongRecOn with
  | ind d ih =>
    intro k hd
    have hsz : (s.extract o s.size).size = s.size - o := by simp
    have step : ∀ (j : Nat) (c c' : Int), k < j → o + k < s.size → c = c' → ((quoteAt (s.extract o s.size) j).map fun p => (c :: p.1, p.2)) = ((quoteAt s (o + j)).map fun p => (c' :: p.1, p.2)).map fun p => (p.1, p.2 - o) := by
      intro j c c' hj hk hc
      subst hc
      by_cases hj2 : o + j < s.size
      · rw [ih (s.size - (o + j)) (by omega) j rfl]
        cases quoteAt s (o + j) <;> simp
      · rw [q_over (s := s.extract o s.size) (by omega), q_over (by omega)]
        rfl
    have e0 : ∀ j : Nat, o + j < s.size → bt (s.extract o s.size) (j : Int) = bt s ((o + j : Nat) : Int) := fun j hj => bt_tail s o j hj
    by_cases h1 : o + k < s.size
    · have h1' : k < (s.extract o s.size).size := by omega
      have b0 := e0 k h1
      by_cases h2 : bt s (o + k : Nat) = 34
      · rw [quoteAt, if_pos h1', if_pos (b0.trans h2), quoteAt, if_pos h1, if_pos h2]
        simp
        omega
      · by_cases h3 : bt s (o + k : Nat) = 10
        · rw [q_line h1' (b0.trans h3), q_line h1 h3]; rfl
        · by_cases h4 : bt s (o + k : Nat) = 92
          · by_cases h5 : o + k + 1 < s.size
            · have h5' : k + 1 < (s.extract o s.size).size := by omega
              have b1 := e0 (k + 1) (by omega)
              by_cases h6 : bt s (o + k + 1 : Nat) = 34 ∨ bt s (o + k + 1 : Nat) = 92
              · rw [q_self h5' (b0.trans h4) (by rw [b1]; exact h6), q_self h5 h4 h6]
                exact step (k + 2) _ _ (by omega) h1 b1
              · by_cases h7 : bt s (o + k + 1 : Nat) = 110
                · rw [q_new h5' (b0.trans h4) (b1.trans h7), q_new h5 h4 h7]
                  exact step (k + 2) _ _ (by omega) h1 rfl
                · by_cases h8 : bt s (o + k + 1 : Nat) = 120 ∧ o + k + 3 < s.size ∧ hexv (bt s (o + k + 2 : Nat)) < 16 ∧ hexv (bt s (o + k + 3 : Nat)) < 16
                  · obtain ⟨g1, g2, g3, g4⟩ := h8
                    have b2 := e0 (k + 2) (by omega)
                    have b3 := e0 (k + 3) (by omega)
                    rw [q_hex (s := s.extract o s.size) (k := k) (by omega) (b0.trans h4) (b1.trans g1) (by rw [b2]; exact g3) (by rw [b3]; exact g4), q_hex g2 h4 g1 g3 g4]
                    exact step (k + 4) _ _ (by omega) h1 (by rw [b2, b3]; rfl)
                  · rw [q_bad h5' (b0.trans h4) (by rw [b1]; exact h6) (by rw [b1]; exact h7) ?_, q_bad h5 h4 h6 h7 h8]
                    · rfl
                    · rintro ⟨g1, g2, g3, g4⟩
                      have b2 := e0 (k + 2) (by omega)
                      have b3 := e0 (k + 3) (by omega)
                      exact h8 ⟨b1.symm.trans g1, by omega, by rw [b2] at g3; exact g3, by rw [b3] at g4; exact g4⟩
            · rw [q_cut h1' (b0.trans h4) (by omega), q_cut h1 h4 h5]; rfl
          · rw [q_plain h1' (by rw [b0]; exact h2) (by rw [b0]; exact h3) (by rw [b0]; exact h4), q_plain h1 h2 h3 h4]
            exact step (k + 1) _ _ (by omega) h1 b0
    · rw [q_over (s := s.extract o s.size) (by omega), q_over h1]; rfl

/-- The place of the next blank, or the end. -/
def wordEnd (s : ByteArray) (k : Nat) : Nat := if k < s.size then (if blankB (bt s k) then k else wordEnd s (k + 1)) else k
termination_by s.size - k
decreasing_by all_goals omega
theorem wordEnd_ge (s : ByteArray) : ∀ d k : Nat, s.size - k = d → k ≤ s.size → k ≤ wordEnd s k ∧ wordEnd s k ≤ s.size := by
  intro d
  induction d with
  | zero => intro k hd hk; rw [wordEnd, if_neg (by omega)]; omega
  | succ d ih =>
    intro k hd hk
    rw [wordEnd, if_pos (by omega)]
    by_cases h : blankB (bt s k) = true
    · rw [if_pos h]; omega
    · rw [if_neg h]; have := ih (k + 1) (by omega) (by omega); omega
theorem wordEnd_go {s : ByteArray} {k : Nat} (h : k < s.size) (hb : blankB (bt s k) = false) : wordEnd s k = wordEnd s (k + 1) := by rw [wordEnd, if_pos h, if_neg (by simp [hb])]
theorem wordEnd_at {s : ByteArray} {k : Nat} (h : k < s.size) (hb : blankB (bt s k) = true) : wordEnd s k = k := by rw [wordEnd, if_pos h, if_pos hb]
theorem wordEnd_over {s : ByteArray} {k : Nat} (h : ¬ k < s.size) : wordEnd s k = k := by rw [wordEnd, if_neg h]
/-- The words from a place on; none: a quoted one that is not right. -/
def wordsAt (s : ByteArray) (k : Nat) : Option (List ByteArray) :=
  if k < s.size then
    if blankB (bt s k) then wordsAt s (k + 1)
    else if bt s k = 35 then some []
    else if bt s k = 34 then
      match quoteAt s (k + 1) with
      | none => none
      | some (w, e) => if e < s.size ∧ blankB (bt s e) = false then none else if k < e then (wordsAt s e).map fun l => strOfNums w :: l else none
    else if k < wordEnd s (k + 1) then (wordsAt s (wordEnd s (k + 1))).map fun l => s.extract k (wordEnd s (k + 1)) :: l else none
  else some []
termination_by s.size - k
decreasing_by all_goals omega
def WEnds (s : ByteArray) (R : Option (List ByteArray)) (acc : List ByteArray) (k : Nat) : Prop := (wordsAt s k).map (fun l => acc ++ l) = R
theorem w_start (s : ByteArray) : WEnds s (wordsAt s 0) [] 0 := by unfold WEnds; cases wordsAt s 0 <;> simp
theorem w_over {s : ByteArray} {R : Option (List ByteArray)} {acc : List ByteArray} {k : Nat} (h : WEnds s R acc k) (h1 : ¬ k < s.size) : R = some acc := by
  unfold WEnds at h
  rw [wordsAt, if_neg h1] at h
  simpa using h.symm
theorem w_blank {s : ByteArray} {R : Option (List ByteArray)} {acc : List ByteArray} {k : Nat} (h : WEnds s R acc k) (h1 : k < s.size) (hb : blankB (bt s k) = true) : WEnds s R acc (k + 1) := by
  unfold WEnds at h ⊢
  rwa [wordsAt, if_pos h1, if_pos hb] at h
theorem w_rem {s : ByteArray} {R : Option (List ByteArray)} {acc : List ByteArray} {k : Nat} (h : WEnds s R acc k) (h1 : k < s.size) (h2 : bt s k = 35) : R = some acc := by
  unfold WEnds at h
  rw [wordsAt, if_pos h1, if_neg (by rw [h2]; decide), if_pos h2] at h
  simpa using h.symm
theorem w_q {s : ByteArray} {R : Option (List ByteArray)} {acc : List ByteArray} {k : Nat} (h : WEnds s R acc k) (h1 : k < s.size) (h2 : bt s k = 34) {w : List Int} {e : Nat} (hq : quoteAt s (k + 1) = some (w, e)) (h3 : ¬ (e < s.size ∧ blankB (bt s e) = false)) : WEnds s R (acc ++ [strOfNums w]) e := by
  have he := (quote_end s _ (k + 1) rfl _ hq).1
  unfold WEnds at h ⊢
  rw [wordsAt, if_pos h1, if_neg (by rw [h2]; decide), if_neg (by omega), if_pos h2, hq] at h
  simp only at h
  rw [if_neg h3, if_pos (by simp only at he; omega)] at h
  rw [← h]
  cases wordsAt s e <;> simp
theorem w_qnone {s : ByteArray} {R : Option (List ByteArray)} {acc : List ByteArray} {k : Nat} (h : WEnds s R acc k) (h1 : k < s.size) (h2 : bt s k = 34) (hq : quoteAt s (k + 1) = none) : R = none := by
  unfold WEnds at h
  rw [wordsAt, if_pos h1, if_neg (by rw [h2]; decide), if_neg (by omega), if_pos h2, hq] at h
  simpa using h.symm
theorem w_qbad {s : ByteArray} {R : Option (List ByteArray)} {acc : List ByteArray} {k : Nat} (h : WEnds s R acc k) (h1 : k < s.size) (h2 : bt s k = 34) {w : List Int} {e : Nat} (hq : quoteAt s (k + 1) = some (w, e)) (h3 : e < s.size ∧ blankB (bt s e) = false) : R = none := by
  unfold WEnds at h
  rw [wordsAt, if_pos h1, if_neg (by rw [h2]; decide), if_neg (by omega), if_pos h2, hq] at h
  simp only at h
  rw [if_pos h3] at h
  simpa using h.symm
theorem w_word {s : ByteArray} {R : Option (List ByteArray)} {acc : List ByteArray} {k : Nat} (h : WEnds s R acc k) (h1 : k < s.size) (hb : blankB (bt s k) = false) (h2 : bt s k ≠ 35) (h3 : bt s k ≠ 34) : WEnds s R (acc ++ [s.extract k (wordEnd s k)]) (wordEnd s k) ∧ k < wordEnd s k := by
  have he := (wordEnd_ge s _ (k + 1) rfl (by omega)).1
  rw [wordEnd_go h1 hb]
  refine ⟨?_, by omega⟩
  unfold WEnds at h ⊢
  rw [wordsAt, if_pos h1, if_neg (by simp [hb]), if_neg h2, if_neg h3, if_pos (by omega)] at h
  rw [← h]
  cases wordsAt s (wordEnd s (k + 1)) <;> simp
end Go.Proofs.YtccnfklemalmeaaDoor.Dw
