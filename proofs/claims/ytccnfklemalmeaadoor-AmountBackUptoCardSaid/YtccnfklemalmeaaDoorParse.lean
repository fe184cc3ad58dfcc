/- amount.Parse and the document's Parse by contracts. -/
import Derived.Test.YtccnfklemalmeaaDoorRep
import Derived.Test.YtccnfklemalmeaaDoorRowWords
import Derived.LoopTactic
set_option linter.unusedVariables false
set_option linter.unusedSimpArgs false
set_option maxRecDepth 100000
namespace Go.Proofs.YtccnfklemalmeaaDoor
open Go.RowKit Go.Proofs.YtccnfklemalmeaaDoor.Tp Go.Proofs.YtccnfklemalmeaaDoor.PAmountTexts Go.Proofs.YtccnfklemalmeaaDoorW.PrintWords

/-- A text's number at a scale, and the error. -/
def pR (l : List UInt8) (t : Nat) : Int × Int :=
  if ((cutP l).1 ++ (cutP l).2).all isD = true ∧ 0 < ((cutP l).1 ++ (cutP l).2).length then
    if t < (cutP l).2.length then (0, 3)
    else match val (((cutP l).1 ++ (cutP l).2) ++ List.replicate (t - (cutP l).2.length) 48) 0 with
      | none => (0, 9)
      | some m => ((m : Int), 0)
  else (0, 6)
theorem cutP_mem : ∀ (l : List UInt8) (c : UInt8), c ∈ l → c = 46 ∨ c ∈ (cutP l).1 ++ (cutP l).2
  | [], c, h => by cases h
  | x :: r, c, h => by
    by_cases hx : x = 46
    · subst hx
      rw [cutP, if_pos rfl]
      rcases List.mem_cons.1 h with h | h
      · exact .inl h
      · exact .inr (by simpa using h)
    · rw [cutP, if_neg hx]
      rcases List.mem_cons.1 h with h | h
      · subst h; exact .inr (by simp)
      · rcases cutP_mem r c h with h | h
        · exact .inl h
        · exact .inr (List.mem_cons_of_mem _ h)
theorem nodot_id (l : List UInt8) (h : l.all isD = true) : nodot l = l := by
  rw [List.all_eq_true] at h
  unfold nodot
  rw [List.filter_eq_self]
  intro c hc
  have := of_decide_eq_true (h c hc)
  simp only [bne_iff_ne]
  intro e
  subst e
  simp at this
theorem nodot_cut : ∀ (l : List UInt8), ((cutP l).1 ++ (cutP l).2).all isD = true → nodot l = (cutP l).1 ++ (cutP l).2
  | [], _ => rfl
  | x :: r, h => by
    by_cases hx : x = 46
    · subst hx
      rw [cutP, if_pos rfl] at h ⊢
      have : nodot (46 :: r) = nodot r := by simp [nodot]
      rw [this]
      exact nodot_id r (by simpa using h)
    · rw [cutP, if_neg hx] at h ⊢
      have e : nodot (x :: r) = x :: nodot r := by simp [nodot, hx]
      simp only [List.cons_append, List.all_cons, Bool.and_eq_true] at h
      rw [e, nodot_cut r h.2]
      rfl
theorem refZeros (d : Nat) : ∀ (i k t : Nat) (x : ByteArray), i + d = t → x.size + d ≤ 4611686018427387904 → t ≤ 100 → d < k → custodyref01_Parse.l0 k x (t : Int) (i : Int) = custodyref01_Parse.l1 (k - d - 1) (x ++ bs (List.replicate d 48)) 0 0 := by
  induction d with
  | zero =>
    intro i k t x hi hx ht hk
    obtain ⟨k, rfl⟩ : ∃ j, k = j + 1 := ⟨k - 1, by omega⟩
    rw [custodyref01_Parse.l0, if_neg (by omega)]
    congr 1
    apply ByteArray.ext
    simp [bs, ByteArray.data_append]
  | succ d ih =>
    intro i k t x hi hx ht hk
    obtain ⟨k, rfl⟩ : ∃ j, k = j + 1 := ⟨k - 1, by omega⟩
    have q1 : (i : Int) < (t : Int) := by omega
    rw [custodyref01_Parse.l0, if_pos q1, if_pos (by omega), wsucc i (by omega), ih (i + 1) k t _ (by omega) (by rw [ByteArray.size_append]; show x.size + 1 + d ≤ _; omega) ht (by omega), show k + 1 - (d + 1) - 1 = k - d - 1 by omega, ByteArray.append_assoc, show (⟨#[48]⟩ : ByteArray) = bs [48] from rfl, bs_append]
    rfl
def parBad (s : Int) : Prop := s < 0 ∨ 18 < s
theorem refParse_f (s : ByteArray) (hs : s.size ≤ 1048576) (t : Nat) (ht : t ≤ 18) (k : Nat) (hk : 3000000 < k) : custodyref01_Parse.f k s (t : Int) = some (pR s.data.toList t) := by
  obtain ⟨k, rfl⟩ : ∃ j, k = j + 1 := ⟨k - 1, by omega⟩
  have hN := refNumeral s (by omega) s.size 0 k 0 0 0 (by omega) (by omega) (by omega) (by omega) (by omega)
  rw [List.drop_zero] at hN
  obtain ⟨n1, n2⟩ := num_ahead s.data.toList 0 0
  unfold custodyref01_Parse.f
  rw [if_neg (by omega), decide_eq_false (by omega), custodyref01_Parse.j0, if_neg (by decide)]
  have hN' : custodyref01_Numeral.f k s = some (((num s.data.toList 0 0 0).1 : Int), (num s.data.toList 0 0 0).2) := hN
  rw [hN']
  simp only [Option.bind_some]
  unfold pR
  simp only [Nat.zero_add] at n1
  by_cases hok : ((cutP s.data.toList).1 ++ (cutP s.data.toList).2).all isD = true ∧ 0 < ((cutP s.data.toList).1 ++ (cutP s.data.toList).2).length
  · have e1 : (num s.data.toList 0 0 0).2 = true := by rw [n1]; exact decide_eq_true hok
    have e2 := n2 e1
    rw [Nat.zero_add] at e2
    rw [if_pos hok, e1, e2, if_pos rfl]
    by_cases hlong : t < (cutP s.data.toList).2.length
    · rw [if_pos hlong, if_pos (by omega)]
    · rw [if_neg hlong, if_neg (by omega)]
      have hsz : (bs (List.replicate (t - (cutP s.data.toList).2.length) 48)).size = t - (cutP s.data.toList).2.length := by rw [bs_size, List.length_replicate]
      rw [refZeros (t - (cutP s.data.toList).2.length) _ k t s (by omega) (by omega) (by omega) (by omega)]
      have hdata : (s ++ bs (List.replicate (t - (cutP s.data.toList).2.length) 48)).data.toList = s.data.toList ++ List.replicate (t - (cutP s.data.toList).2.length) 48 := by simp [bs, ByteArray.data_append]
      have hall := hok.1
      have hmem : ∀ c, c ∈ (s ++ bs (List.replicate (t - (cutP s.data.toList).2.length) 48)).data.toList → c = 46 ∨ isD c = true := by
        intro c hc
        rw [hdata] at hc
        rcases List.mem_append.1 hc with hc | hc
        · rcases cutP_mem _ c hc with h | h
          · exact .inl h
          · exact .inr (List.all_eq_true.1 hall c h)
        · rw [(List.mem_replicate.1 hc).2]; exact .inr (by decide)
      have hV := refValue (s ++ bs (List.replicate (t - (cutP s.data.toList).2.length) 48)) (by rw [ByteArray.size_append, hsz]; omega) hmem (s.size + (t - (cutP s.data.toList).2.length)) 0 (k - (t - (cutP s.data.toList).2.length) - 1) 0 (by rw [ByteArray.size_append, hsz]; omega) (by omega) (by omega)
      rw [List.drop_zero, hdata] at hV
      have hnd : nodot (s.data.toList ++ List.replicate (t - (cutP s.data.toList).2.length) 48) = ((cutP s.data.toList).1 ++ (cutP s.data.toList).2) ++ List.replicate (t - (cutP s.data.toList).2.length) 48 := by
        unfold nodot
        rw [List.filter_append]
        congr 1
        · exact nodot_cut _ hall
        · rw [List.filter_eq_self]
          intro c hc
          rw [(List.mem_replicate.1 hc).2]
          decide
      rw [hnd] at hV
      exact hV
  · have e1 : (num s.data.toList 0 0 0).2 = false := by rw [n1]; exact decide_eq_false hok
    rw [if_neg hok, e1, if_neg (by decide)]
theorem refParse_any (s : ByteArray) (hs : s.size ≤ 1048576) (t : Int) (ht : I64 t) (w : World) : Calls Tryd.prog 45 #[.string s, .int .i64 t] w fun e w' =>
    (parBad t ∧ e = .returned (.tuple #[.int .i64 0, .int .i64 1]) ∨ ¬ parBad t ∧ e = .returned (.tuple #[.int .i64 (pR s.data.toList t.toNat).1, .int .i64 (pR s.data.toList t.toNat).2])) ∧ Below w.heap.size w w' := by
  by_cases hbad : parBad t
  · refine (custodyref01_Parse.calls 5 s t 0 1 w ?_).mono fun e w' ⟨he, nd, hw⟩ => ⟨.inl ⟨hbad, he⟩, by rw [hw]; exact bl_drewN (bl_refl w) nd⟩
    unfold parBad at hbad
    unfold custodyref01_Parse.f
    by_cases h1 : t < 0
    · rw [if_pos h1]; rfl
    · rw [if_neg h1, decide_eq_true (by omega)]; rfl
  · have hb := hbad
    unfold parBad at hb
    obtain ⟨m, rfl⟩ := Int.eq_ofNat_of_zero_le (show 0 ≤ t by omega)
    exact (custodyref01_Parse.calls 3000001 s m _ _ w (refParse_f s hs m (by omega) 3000001 (by omega))).mono fun e w' ⟨he, nd, hw⟩ => ⟨.inr ⟨hbad, he⟩, by rw [hw]; exact bl_drewN (bl_refl w) nd⟩
end Go.Proofs.YtccnfklemalmeaaDoor
