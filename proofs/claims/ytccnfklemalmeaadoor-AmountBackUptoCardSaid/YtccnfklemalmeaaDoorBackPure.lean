/- A number's text reads back as the number; noughts ahead and behind: in plain Lean. -/
import Derived.Test.YtccnfklemalmeaaDoorLawTexts
set_option linter.unusedVariables false
set_option linter.unusedSimpArgs false
namespace Go.Proofs.YtccnfklemalmeaaDoor.Tp
open Go.RowKit Go.Proofs.YtccnfklemalmeaaDoor.PAmountTexts Go.Proofs.YtccnfklemalmeaaDoorW.PrintWords Go.Proofs.YtccnfklemalmeaaDoor

def hor : List UInt8 → Nat → Nat
  | [], n => n
  | c :: r, n => hor r (10 * n + (c.toNat - 48))
theorem hor_ge : ∀ (l : List UInt8) (n : Nat), n ≤ hor l n
  | [], n => Nat.le_refl n
  | c :: r, n => by
    have := hor_ge r (10 * n + (c.toNat - 48))
    show n ≤ hor r (10 * n + (c.toNat - 48))
    omega
theorem val_hor : ∀ (l : List UInt8) (n : Nat), hor l n ≤ 9223372036854775807 → val l n = some (hor l n)
  | [], n, _ => rfl
  | c :: r, n, h => by
    have hg := hor_ge r (10 * n + (c.toNat - 48))
    have h' : hor r (10 * n + (c.toNat - 48)) ≤ 9223372036854775807 := h
    rw [val, if_neg (by omega), val_hor r _ h']
    rfl
theorem hor_snoc : ∀ (l : List UInt8) (c : UInt8) (n : Nat), hor (l ++ [c]) n = 10 * hor l n + (c.toNat - 48)
  | [], c, n => rfl
  | d :: r, c, n => hor_snoc r c (10 * n + (d.toNat - 48))
def by1 (x : Int) : UInt8 := UInt8.ofNat x.toNat
theorem strOf_list (xs : List Int) : (strOfNums xs).data.toList = xs.map by1 := rfl
theorem by1_dg (n : Nat) : (by1 (dg n)).toNat = 48 + n % 10 := by
  unfold by1 dg
  rw [UInt8.toNat_ofNat']
  omega
theorem by1_isD (n : Nat) : isD (by1 (dg n)) = true := by
  unfold isD
  rw [by1_dg]
  exact decide_eq_true (by omega)
theorem rev_hor (b : Nat) : ∀ n c least : Nat, n + (least - c) ≤ b → hor ((revD n c least).reverse.map by1) 0 = n := by
  induction b with
  | zero =>
    intro n c least h
    rw [revD_end (by omega)]
    show 0 = n
    omega
  | succ b ih =>
    intro n c least h
    by_cases hg : 0 < n ∨ c < least
    · rw [revD_go hg, List.reverse_cons, List.map_append, List.map_cons, List.map_nil, hor_snoc, ih (n / 10) (c + 1) least (by omega), by1_dg]
      omega
    · rw [revD_end hg]
      show 0 = n
      omega
theorem rev_mem (b : Nat) : ∀ n c least : Nat, n + (least - c) ≤ b → ∀ x ∈ revD n c least, ∃ m, x = dg m := by
  induction b with
  | zero =>
    intro n c least h x hx
    rw [revD_end (by omega)] at hx
    cases hx
  | succ b ih =>
    intro n c least h x hx
    by_cases hg : 0 < n ∨ c < least
    · rw [revD_go hg] at hx
      rcases List.mem_cons.1 hx with rfl | hx
      · exact ⟨n, rfl⟩
      · exact ih (n / 10) (c + 1) least (by omega) x hx
    · rw [revD_end hg] at hx
      cases hx
theorem pad_mem (s : Nat) : ∀ n : Nat, ∀ x ∈ padD s n, ∃ m, x = dg m := by
  induction s with
  | zero => intro n x hx; cases hx
  | succ s ih =>
    intro n x hx
    rcases List.mem_cons.1 hx with rfl | hx
    · exact ⟨n, rfl⟩
    · exact ih _ x hx
theorem all_isD (xs : List Int) (h : ∀ x ∈ xs, ∃ m, x = dg m) : (xs.reverse.map by1).all isD = true := by
  rw [List.all_eq_true]
  intro c hc
  obtain ⟨x, hx, rfl⟩ := List.mem_map.1 hc
  obtain ⟨m, rfl⟩ := h x (List.mem_reverse.1 hx)
  exact by1_isD m
theorem isD_ne {c : UInt8} (h : isD c = true) : ¬ c = 46 := fun e => by subst e; rw [isD_46] at h; cases h
theorem cutP_none : ∀ l : List UInt8, l.all isD = true → cutP l = (l, [])
  | [], _ => rfl
  | c :: r, h => by
    simp only [List.all_cons, Bool.and_eq_true] at h
    rw [cutP, if_neg (isD_ne h.1), cutP_none r h.2]
theorem cutP_at : ∀ (l r : List UInt8), l.all isD = true → cutP (l ++ 46 :: r) = (l, r)
  | [], r, _ => by show cutP (46 :: r) = _; rw [cutP, if_pos rfl]
  | c :: l, r, h => by
    simp only [List.all_cons, Bool.and_eq_true] at h
    show cutP (c :: (l ++ 46 :: r)) = _
    rw [cutP, if_neg (isD_ne h.1), cutP_at l r h.2]
theorem parse_format (n t : Nat) (hn : n ≤ 9223372036854775807) : pR (fmtV n t).data.toList t = ((n : Int), 0) := by
  by_cases h0 : t = 0
  · subst h0
    have e : (fmtV n 0).data.toList = (revD n 0 1).reverse.map by1 := by unfold fmtV; rw [if_pos rfl]; rfl
    have hd := all_isD (revD n 0 1) (rev_mem (n + 1) n 0 1 (by omega))
    have hl : 0 < ((revD n 0 1).reverse.map by1).length := by rw [revD_go (by omega)]; simp
    have hv := rev_hor (n + 1) n 0 1 (by omega)
    rw [e]
    generalize (revD n 0 1).reverse.map by1 = L at hd hl hv
    unfold pR
    rw [cutP_none L hd]
    simp only [List.append_nil, List.length_nil, Nat.sub_self, List.replicate_zero]
    rw [if_pos ⟨hd, hl⟩, if_neg (by omega), val_hor L 0 (by omega), hv]
  · have e : (fmtV n t).data.toList = (revD (n / 10 ^ t) 0 1).reverse.map by1 ++ 46 :: (padD t n).reverse.map by1 := by
      unfold fmtV
      rw [if_neg h0, ByteArray.data_append, ByteArray.data_append, Array.toList_append, Array.toList_append, strOf_list, strOf_list]
      simp
    have hd1 := all_isD (revD (n / 10 ^ t) 0 1) (rev_mem (n / 10 ^ t + 1) _ 0 1 (by omega))
    have hd2 := all_isD (padD t n) (pad_mem t n)
    have hl : 0 < ((revD (n / 10 ^ t) 0 1).reverse.map by1).length := by rw [revD_go (by omega)]; simp
    have hl2 : ((padD t n).reverse.map by1).length = t := by rw [List.length_map, List.length_reverse, padD_len]
    have hv : hor ((revD (n / 10 ^ t) 0 1).reverse.map by1 ++ (padD t n).reverse.map by1) 0 = n := by
      have := revD_split t n 0
      rw [Nat.zero_add] at this
      rw [← List.map_append, ← List.reverse_append, ← this]
      exact rev_hor (n + (t + 1)) n 0 (t + 1) (by omega)
    rw [e]
    generalize (revD (n / 10 ^ t) 0 1).reverse.map by1 = A at hd1 hl hv
    generalize (padD t n).reverse.map by1 = B at hd2 hl2 hv
    unfold pR
    rw [cutP_at A B hd1]
    simp only [hl2, Nat.sub_self, List.replicate_zero, List.append_nil]
    rw [if_pos ⟨by rw [List.all_append, hd1, hd2]; rfl, by rw [List.length_append]; omega⟩, if_neg (by omega), val_hor _ 0 (by omega), hv]
theorem fmt_size (n t : Nat) : t + 1 ≤ (fmtV n t).size := by
  unfold fmtV
  by_cases h0 : t = 0
  · rw [if_pos h0, strOfNums_size, revD_go (by omega)]
    simp
    omega
  · rw [if_neg h0, ByteArray.size_append, ByteArray.size_append, strOfNums_size, strOfNums_size, List.length_reverse, List.length_reverse, padD_len, revD_go (by omega)]
    have : (⟨#[46]⟩ : ByteArray).size = 1 := rfl
    simp only [List.length_cons]
    omega
theorem pR_ok {l : List UInt8} {t : Nat} {y : Int} (h : pR l t = (y, 0)) : ((cutP l).1 ++ (cutP l).2).all isD = true ∧ 0 < ((cutP l).1 ++ (cutP l).2).length ∧ (cutP l).2.length ≤ t ∧
    ∃ m : Nat, y = (m : Int) ∧ val (((cutP l).1 ++ (cutP l).2) ++ List.replicate (t - (cutP l).2.length) 48) 0 = some m := by
  unfold pR at h
  split at h
  · rename_i hc
    split at h
    · simp at h
    · rename_i ht
      generalize val (((cutP l).1 ++ (cutP l).2) ++ List.replicate (t - (cutP l).2.length) 48) 0 = v at h ⊢
      cases v with
      | none => simp at h
      | some m =>
        simp only [Prod.mk.injEq, and_true] at h
        exact ⟨hc.1, hc.2, by omega, m, h.symm, rfl⟩
  · simp at h
theorem pR_mk {l A B : List UInt8} {t m : Nat} (h : cutP l = (A, B)) (hd : (A ++ B).all isD = true) (h0 : 0 < (A ++ B).length) (ht : B.length ≤ t) (hv : val ((A ++ B) ++ List.replicate (t - B.length) 48) 0 = some m) : pR l t = ((m : Int), 0) := by
  unfold pR
  rw [h]
  simp only
  rw [if_pos ⟨hd, h0⟩, if_neg (by omega), hv]
theorem parse_zero {l : List UInt8} {t : Nat} {y : Int} (h : pR l t = (y, 0)) : pR (48 :: l) t = (y, 0) ∧ 0 ≤ y := by
  obtain ⟨h1, h2, h3, m, rfl, h4⟩ := pR_ok h
  have e : cutP (48 :: l) = (48 :: (cutP l).1, (cutP l).2) := by rw [cutP, if_neg (by decide)]
  refine ⟨pR_mk e ?_ ?_ h3 ?_, by omega⟩
  · rw [List.cons_append, List.all_cons, h1]; decide
  · simp
  · rw [List.cons_append, List.cons_append, val, if_neg (by decide)]
    exact h4
theorem cutP_append : ∀ (l r : List UInt8), 46 ∈ l → cutP (l ++ r) = ((cutP l).1, (cutP l).2 ++ r)
  | [], r, h => by cases h
  | c :: l, r, h => by
    by_cases hc : c = 46
    · subst hc
      show cutP (46 :: (l ++ r)) = _
      rw [cutP, if_pos rfl, cutP, if_pos rfl]
    · have h' : 46 ∈ l := by
        rcases List.mem_cons.1 h with h | h
        · exact absurd h.symm hc
        · exact h
      show cutP (c :: (l ++ r)) = _
      rw [cutP, if_neg hc, cutP_append l r h', cutP, if_neg hc]
theorem parse_end {l : List UInt8} {t : Nat} {y : Int} (hp : 46 ∈ l) (h : pR l t = (y, 0)) : pR (l ++ [48]) t = (y, 0) ∨ pR (l ++ [48]) t = (0, 3) := by
  obtain ⟨h1, h2, h3, m, rfl, h4⟩ := pR_ok h
  have e := cutP_append l [48] hp
  generalize (cutP l).1 = A at *
  generalize (cutP l).2 = B at *
  have hd : (A ++ (B ++ [48])).all isD = true := by rw [← List.append_assoc, List.all_append, h1]; decide
  by_cases ht : t < (B ++ [48]).length
  · right
    unfold pR
    rw [e]
    simp only
    rw [if_pos ⟨hd, by simp; omega⟩, if_pos ht]
  · left
    refine pR_mk e hd (by simp; omega) (by omega) ?_
    rw [← h4]
    congr 1
    simp only [List.length_append, List.length_cons, List.length_nil] at ht ⊢
    obtain ⟨d, hd⟩ : ∃ d, t - B.length = d + 1 := ⟨t - B.length - 1, by omega⟩
    rw [hd, show t - (B.length + (0 + 1)) = d by omega, List.replicate_succ]
    simp
theorem list_cons (s : ByteArray) : ((⟨#[48]⟩ : ByteArray) ++ s).data.toList = 48 :: s.data.toList := by rw [ByteArray.data_append, Array.toList_append]; rfl
theorem list_snoc (s : ByteArray) : (s ++ (⟨#[48]⟩ : ByteArray)).data.toList = s.data.toList ++ [48] := by rw [ByteArray.data_append, Array.toList_append]
end Go.Proofs.YtccnfklemalmeaaDoor.Tp
