/- The law DeskWords by its walk. -/
import Derived.Test.YtccnfklemalmeaaDoorDeskWordsD
import Derived.Test.YtccnfklemalmeaaDoorApart
import Derived.Test.YtccnfklemalmeaaDoorSums
set_option linter.unusedVariables false
set_option linter.unusedSimpArgs false
set_option maxRecDepth 100000
namespace Go.Proofs.YtccnfklemalmeaaDoor
open Go.RowKit Go.Proofs.YtccnfklemalmeaaDoor.Dw Go.Proofs.YtccnfklemalmeaaDoorW.PrintWords Go.Proofs.YtccnfklemalmeaaDoorW.PrintLast Go.Proofs.YtccnfklemalmeaaDoorW.PrintMore Go.Proofs.YtccnfklemalmeaaDoor.PDeskWords

theorem same_self (l : List ByteArray) (hl : l.length ≤ 4611686018427387904) : ∀ (d : Nat) (k : Nat) (i : Nat), i + d = l.length → d < k → custodyref0_SameTexts.l0 k l l (i : Int) = some true := by
  intro d
  induction d with
  | zero =>
    intro k i h1 h2
    obtain ⟨k, rfl⟩ : ∃ j, k = j + 1 := ⟨k - 1, by omega⟩
    rw [custodyref0_SameTexts.l0, if_neg (by omega)]
  | succ d ih =>
    intro k i h1 h2
    obtain ⟨k, rfl⟩ : ∃ j, k = j + 1 := ⟨k - 1, by omega⟩
    rw [custodyref0_SameTexts.l0, if_pos (by omega), if_pos (by omega), if_pos (by omega), if_pos rfl, show wrap64 ((i : Int) + 1) = ((i + 1 : Nat) : Int) by unfold wrap64; omega]
    exact ih k (i + 1) (by omega) (by omega)
theorem sameTexts_any (v1 v2 : Value) (l : List ByteArray) (B1 B2 : Nat) (w : World) (h1 : w.ownsRow B1 9 1 v1 l.length (strs l)) (h2 : w.ownsRow B2 9 1 v2 l.length (strs l)) (hl : l.length ≤ 4611686018427387904) :
    Calls Tryd.prog 35 #[v1, v2] w fun e w' => e = .returned (.bool true) ∧ Below w.heap.size w w' := by
  have r1 : Kd.string.R 9 w B1 (fun _ => True) v1 l := Kd.R_of_own h1 (fun _ _ => trivial)
  have r2 : Kd.string.R 9 w B2 (fun _ => True) v2 l := Kd.R_of_own h2 (fun _ _ => trivial)
  obtain ⟨A1, c1, rfl, hc1, k1⟩ := Kd.R_reads r1
  obtain ⟨A2, c2, rfl, hc2, k2⟩ := Kd.R_reads r2
  refine (custodyref0_SameTexts.calls (l.length + 1) A1 c1 l A2 c2 l true w k1 hc1 k2 hc2 ?_).mono fun e w' ⟨he, nd, hw⟩ => ⟨he, ?_⟩
  · unfold custodyref0_SameTexts.f
    rw [if_pos rfl]
    exact same_self l hl l.length (l.length + 1) 0 (by omega) (by omega)
  · rw [hw]
    exact bl_drewN (bl_refl w) nd
theorem ow_less {w : World} {b base n : Nat} {e : TypeId} {size : Nat} {v : Value} {xs : List Value} (h : w.ownsRow b e size v n xs) (hb : base ≤ b) : w.ownsRow base e size v n xs := by
  refine ⟨h.1, h.2.imp id ?_⟩
  rintro ⟨g, cap, cur, h1, h2, h3⟩
  exact ⟨g, cap, cur, h1, Nat.le_trans hb h2, h3⟩
theorem words_len (s : ByteArray) : ∀ d k : Nat, s.size - k = d → ∀ l, wordsAt s k = some l → l.length ≤ s.size - k := by
  intro d
  induction d using Nat.strongRecOn with
  | ind d ih =>
    intro k hd l hl
    have go : ∀ (j : Nat) (x : ByteArray), k < j → j ≤ s.size → ((wordsAt s j).map fun q => x :: q) = some l → l.length ≤ s.size - k := by
      intro j x hj hjs h
      obtain ⟨q, hq, rfl⟩ := Option.map_eq_some_iff.1 h
      have := ih (s.size - j) (by omega) j rfl q hq
      simp only [List.length_cons]
      omega
    rw [wordsAt] at hl
    by_cases h1 : k < s.size
    · rw [if_pos h1] at hl
      by_cases h2 : blankB (bt s k) = true
      · rw [if_pos h2] at hl
        have := ih (s.size - (k + 1)) (by omega) (k + 1) rfl l hl
        omega
      · rw [if_neg h2] at hl
        by_cases h3 : bt s k = 35
        · rw [if_pos h3] at hl; injection hl with hl; subst hl; simp
        · rw [if_neg h3] at hl
          by_cases h4 : bt s k = 34
          · rw [if_pos h4] at hl
            cases hq : quoteAt s (k + 1) with
            | none => rw [hq] at hl; cases hl
            | some p =>
              obtain ⟨w, e⟩ := p
              rw [hq] at hl
              have he := quote_end s _ (k + 1) rfl _ hq
              simp only at hl he
              by_cases h5 : e < s.size ∧ blankB (bt s e) = false
              · rw [if_pos h5] at hl; cases hl
              · rw [if_neg h5, if_pos (by omega)] at hl
                exact go e _ (by omega) he.2.1 hl
          · rw [if_neg h4] at hl
            have he := wordEnd_ge s _ (k + 1) rfl (by omega)
            rw [if_pos (by omega)] at hl
            exact go _ _ (by omega) he.2 hl
    · rw [if_neg h1] at hl; injection hl with hl; subst hl; simp
theorem wL_len (s : ByteArray) : (wL (wordsAt s 0)).length ≤ s.size := by
  cases h : wordsAt s 0 with
  | none => simp [wL]
  | some l => have := words_len s _ 0 rfl l h; simpa [wL] using this
theorem strs_length (l : List ByteArray) : (strs l).length = l.length := by simp [strs]
theorem ne_of_bases {v v' : Value} {N : Nat} (h : ∀ b, v.ownBlock = some b → b < N) (h' : ∀ b, v'.ownBlock = some b → N ≤ b) : (v.ownBlock = none ∨ v.ownBlock ≠ v'.ownBlock) ∧ (v'.ownBlock = none ∨ v'.ownBlock ≠ v.ownBlock) := by
  cases e : v.ownBlock with
  | none =>
    refine ⟨.inl rfl, ?_⟩
    cases e' : v'.ownBlock with
    | none => exact .inl rfl
    | some b' => exact .inr (by simp)
  | some b =>
    have h1 := h b e
    cases e' : v'.ownBlock with
    | none => exact ⟨.inr (by simp), .inl rfl⟩
    | some b' =>
      have h2 := h' b' e'
      exact ⟨.inr (by simp; omega), .inr (by simp; omega)⟩
def three {α : Type} (a b c : α) (j : Nat) : α := if j = 0 then a else if j = 1 then b else c
theorem st3 {w wb : World} {va vb vc : Value} {xa xb xc : List Value} (hb : Below w.heap.size w wb) (ha : wb.ownsRow w.heap.size 9 1 va xa.length xa) (hb' : wb.ownsRow w.heap.size 9 1 vb xb.length xb) (hc : wb.ownsRow w.heap.size 9 1 vc xc.length xc)
    (nab : (va.ownBlock = none ∨ va.ownBlock ≠ vb.ownBlock) ∧ (vb.ownBlock = none ∨ vb.ownBlock ≠ va.ownBlock)) (nac : (va.ownBlock = none ∨ va.ownBlock ≠ vc.ownBlock) ∧ (vc.ownBlock = none ∨ vc.ownBlock ≠ va.ownBlock)) (nbc : (vb.ownBlock = none ∨ vb.ownBlock ≠ vc.ownBlock) ∧ (vc.ownBlock = none ∨ vc.ownBlock ≠ vb.ownBlock)) :
    St 9 60 w w.heap.size [wb.heap.size] 0 3 (three va vb vc) (three xa xb xc) (.slice none 0 0) [] (wb.alloc (.cells #[va, vb, vc] 60)) ∧
      ∀ j, j < 3 → (wb.alloc (.cells #[va, vb, vc] 60)).cell? ((⟨wb.heap.size, 0, none⟩ : Addr).add j) = some (three va vb vc j) := by
  have c3 : ∀ j : Nat, j < 3 → j = 0 ∨ j = 1 ∨ j = 2 := fun j hj => by omega
  have lt : ∀ (v : Value) (x : List Value), wb.ownsRow w.heap.size 9 1 v x.length x → v.ownBlock ≠ some wb.heap.size := fun v x h e => by have := ow_lt h _ e; omega
  refine ⟨⟨bl_alloc hb _, Nat.le_refl _, fun j _ hj => ?_, fun i j _ hi _ hj hij => ?_, ow_nil _ _ _ _, fun b hb2 => ?_⟩, fun j hj => ?_⟩
  · rcases c3 j hj with rfl | rfl | rfl
    · exact ha.alloc _
    · exact hb'.alloc _
    · exact hc.alloc _
  · rcases c3 i hi with rfl | rfl | rfl <;> rcases c3 j hj with rfl | rfl | rfl <;> first | exact absurd rfl hij | exact nab.1 | exact nab.2 | exact nac.1 | exact nac.2 | exact nbc.1 | exact nbc.2
  · obtain rfl : b = wb.heap.size := by simpa using hb2
    refine ⟨by simp, by simp [Value.ownBlock], fun j _ hj => ?_⟩
    rcases c3 j hj with rfl | rfl | rfl
    · exact lt _ _ ha
    · exact lt _ _ hb'
    · exact lt _ _ hc
  · have hblk : (wb.alloc (.cells #[va, vb, vc] 60)).heap[wb.heap.size]? = some (.cells #[va, vb, vc] 60 (0, 0)) := heap_alloc_new wb _
    have e : (⟨wb.heap.size, 0, none⟩ : Addr).add j = ⟨wb.heap.size, j, none⟩ := by unfold Addr.add; split <;> simp_all
    rw [e, cell_of_row _ _ _ _ _ _ hblk]
    rcases c3 j hj with rfl | rfl | rfl <;> rfl
set_option maxHeartbeats 2000000 in
theorem rowlaw_DeskWords (w : World) (hg : ErrT w) (line other : ByteArray) (hs1 : line.size ≤ 1048576) (hs2 : other.size ≤ 1048576) :
    Calls Tryd.prog 6 #[.string line, .string other] w fun e w' => e = .returned (.bool true) ∧ Below w.heap.size w w' := by
  have HG := Lib.hid hg
  clear hg
  have hl1 := wL_len line
  have hl2 := wL_len other
  have HR1 := Lib.hid (fun w => rwords line hs1 w)
  have HR2 := Lib.hid (fun w => rwords other hs2 w)
  have HD1 := Lib.hid (fun w => dwords line hs1 w)
  have HD2 := Lib.hid (fun w => dwords other hs2 w)
  generalize wordsAt line 0 = R1 at HR1 HD1 hl1
  generalize wordsAt other 0 = R2 at HR2 HD2 hl2
  go_enter Tryd.func6, Tryd.ntmps6
  go_wp2_with fail
  refine (HR1.out _).mono ?_
  rintro e w1 ⟨v1, rfl, ho1, hb1⟩
  go_wp2_with fail
  refine (HR2.out _).mono ?_
  rintro e w2 ⟨v2, rfl, ho2, hb2⟩
  go_wp2_with fail
  refine (HD1.out _).mono ?_
  rintro e w3 ⟨v3, E3, rfl, ok3, n3, ho3, hb3⟩
  go_wp2_with fail
  refine (HD2.out _).mono ?_
  rintro e w4 ⟨v4, E4, rfl, ok4, n4, ho4, hb4⟩
  go_wp2_with fail
  refine (HD1.out _).mono ?_
  rintro e w5 ⟨v5, E5, rfl, ok5, n5, ho5, hb5⟩
  have N3 := Lib.hid n3
  have N4 := Lib.hid n4
  have N5 := Lib.hid n5
  clear n3 n4 n5
  have hb15 := bl_then (bl_then (bl_then (bl_then hb1 hb2) hb3) hb4) hb5
  go_wp2_with fail
  refine (plain_eq E3 ok3 _ N3.out _ (HG.out.below hb15)).mono ?_
  rintro e w6 ⟨rfl, hb6⟩
  go_wp2_with fail
  refine (plain_eq E4 ok4 _ N4.out _ (HG.out.below (bl_then hb15 hb6))).mono ?_
  rintro e w7 ⟨rfl, hb7⟩
  go_wp2_with fail
  refine (plain_eq E5 ok5 _ N5.out _ (HG.out.below (bl_then (bl_then hb15 hb6) hb7))).mono ?_
  rintro e w8 ⟨rfl, hb8⟩
  have hb58 := bl_then (bl_then hb6 hb7) hb8
  have hb38 := bl_then (bl_then hb4 hb5) hb58
  have hb48 := bl_then hb5 hb58
  have o1 := ow_keep (ow_keep (ow_keep ho1 hb2) hb3) hb38
  have o2 := ow_keep (ow_keep ho2 hb3) hb38
  have o3 := ow_keep ho3 hb38
  have o4 := ow_keep ho4 hb48
  have o5 := ow_keep ho5 hb58
  go_wp2_with fail
  refine (sameTexts_any v3 v1 _ _ _ _ o3 o1 (by omega)).mono ?_
  rintro e w9 ⟨rfl, hb9⟩
  go_wp2_with fail
  refine (sameTexts_any v4 v2 _ _ _ _ (ow_keep o4 hb9) (ow_keep o2 hb9) (by omega)).mono ?_
  rintro e wa ⟨rfl, hba⟩
  go_wp2_with fail
  refine (sameTexts_any v5 v1 _ _ _ _ (ow_keep (ow_keep o5 hb9) hba) (ow_keep (ow_keep o1 hb9) hba) (by omega)).mono ?_
  rintro e wb ⟨rfl, hbb⟩
  have hb8b := bl_then (bl_then hb9 hba) hbb
  have p3 := ow_keep o3 hb8b
  have p4 := ow_keep o4 hb8b
  have p5 := ow_keep o5 hb8b
  have hall := bl_then (bl_then hb15 hb58) hb8b
  have hlt3 := fun b h => ow_lt ho3 b h
  have hlt4 := fun b h => ow_lt ho4 b h
  have hge4 := fun b h => ow_base ho4 b h
  have hge5 := fun b h => ow_base ho5 b h
  have s4 := hb4.size
  have s5 := hb5.size
  have sw3 : w.heap.size ≤ w2.heap.size := (bl_then hb1 hb2).size
  have sw4 : w.heap.size ≤ w3.heap.size := (bl_then (bl_then hb1 hb2) hb3).size
  have sw5 : w.heap.size ≤ w4.heap.size := (bl_then (bl_then (bl_then hb1 hb2) hb3) hb4).size
  have swb := hall.size
  obtain ⟨A3, c3, rfl⟩ := ow_slice p3
  obtain ⟨A4, c4, rfl⟩ := ow_slice p4
  obtain ⟨A5, c5, rfl⟩ := ow_slice p5
  have q3 : wb.ownsRow w.heap.size 9 1 (.slice A3 (wL R1).length c3) (strs (wL R1)).length (strs (wL R1)) := by rw [strs_length]; exact ow_less p3 sw3
  have q4 : wb.ownsRow w.heap.size 9 1 (.slice A4 (wL R2).length c4) (strs (wL R2)).length (strs (wL R2)) := by rw [strs_length]; exact ow_less p4 sw4
  have q5 : wb.ownsRow w.heap.size 9 1 (.slice A5 (wL R1).length c5) (strs (wL R1)).length (strs (wL R1)) := by rw [strs_length]; exact ow_less p5 sw5
  have n34 := ne_of_bases hlt3 hge4
  have n35 := ne_of_bases (N := w4.heap.size) (fun b h => Nat.lt_of_lt_of_le (hlt3 b h) s4) hge5
  have n45 := ne_of_bases hlt4 hge5
  obtain ⟨hSt, hCells⟩ := st3 hall q3 q4 q5 n34 n35 n45
  have HSt := Lib.hid hSt
  have HCe := Lib.hid hCells
  clear hSt hCells n34 n35 n45 q3 q4 q5 hlt3 hlt4 hge4 hge5 p3 p4 p5 o1 o2 o3 o4 o5 ho1 ho2 ho3 ho4 ho5
  go_wp2_with fail
  refine (apartTexts ⟨wb.heap.size, 0, none⟩ 3 3 _ _ w _ w.heap.size [wb.heap.size] HSt.out HCe.out (by simp) (by omega) (fun j hj => ?_)).mono ?_
  · have c3 : j = 0 ∨ j = 1 ∨ j = 2 := by omega
    rcases c3 with rfl | rfl | rfl
    · show (strs (wL R1)).length ≤ _
      rw [strs_length]; omega
    · show (strs (wL R2)).length ≤ _
      rw [strs_length]; omega
    · show (strs (wL R1)).length ≤ _
      rw [strs_length]; omega
  rintro e wc ⟨rfl, hbc⟩
  go_wp2
  go_ret
  exact ⟨rfl, hbc⟩
end Go.Proofs.YtccnfklemalmeaaDoor
