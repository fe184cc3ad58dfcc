/- desk.unquote by its contract. -/
import Derived.Test.YtccnfklemalmeaaDoorDeskQuote
set_option linter.unusedVariables false
set_option linter.unusedSimpArgs false
set_option maxRecDepth 100000
namespace Go.Proofs.YtccnfklemalmeaaDoor
open Go.RowKit Go.Proofs.YtccnfklemalmeaaDoor.Dw Go.Proofs.YtccnfklemalmeaaDoorW.PrintWords Go.Proofs.YtccnfklemalmeaaDoorW.PrintLast Go.Proofs.YtccnfklemalmeaaDoorW.PrintMore
/-- What unquote answers. -/
def URet (R : Option (List Int × Nat)) (w : World) (e : Ending) (w' : World) : Prop :=
  (match R with | none => e = .returned (.tuple #[.string ⟨#[]⟩, .int .i64 0, .bool false]) | some p => e = .returned (.tuple #[.string (strOfNums p.1), .int .i64 (p.2 : Int), .bool true])) ∧ Below w.heap.size w w'
theorem uq_facts (k n m : Nat) (x2 x3 : Int) (hk : k + 3 < n) (hn : n ≤ 140737488351232) (hm : m ≤ k) (g2 : 0 ≤ x2) (ha : x2 < 16) (g3 : 0 ≤ x3) (hb : x3 < 16) :
    (m + 1) * 1 ≤ 140737488355328 ∧ (0 : Int) ≤ (k : Int) + 2 ∧ (k : Int) + 2 < (n : Int) ∧ (0 : Int) ≤ (k : Int) + 3 ∧ (k : Int) + 3 < (n : Int) ∧ ((k : Int) + 2).toNat = k + 2 ∧ ((k : Int) + 3).toNat = k + 3 ∧
    wrap64 ((k : Int) + 1 + 1) = (k : Int) + 2 ∧ wrap64 ((k : Int) + 1 + 2) = (k : Int) + 3 ∧ IntKind.u8.wrap (x2 * 16) = x2 * 16 ∧ Go.bits .or .u8 (x2 * 16) x3 = 16 * x2 + x3 :=
  ⟨by omega, by omega, by omega, by omega, by omega, by omega, by omega, by unfold wrap64; omega, by unfold wrap64; omega, by simp [IntKind.wrap, IntKind.bits, IntKind.signed]; omega, or_nib x2 x3 g2 ha g3 hb⟩
def q26.T : Bool × List (List Nat × List Nat) := (true, [([], []), ([], []), ([], []), ([2], [2]), ([1, 3], [1, 3]), ([4], [4]), ([5], [5]), ([], []), ([], []), ([8], [8]), ([7, 9], [7, 9]), ([10, 5], [10]), ([6, 11], [6, 11]), ([12], [12]), ([0, 13, 11], [0, 13]), ([14, 14, 0, 1, 2, 3, 4, 5, 6, 7, 8, 9, 10, 11, 12, 13, 14], [0, 14])])
def q26.B : List Nat := [0, 0, 0, 4, 14, 30, 62, 0, 0, 256, 896, 1982, 4094, 8190, 16383, 32767]
theorem q26.tab : rtab .any (opsOf Tryd.f65 26) = q26.T := by kernel_rfl
theorem q26.bits : waitsOk q26.T.2 q26.B = true := by kernel_rfl
set_option maxHeartbeats 1000000 in
theorem dunquote (s : ByteArray) (h0s : 1 ≤ s.size) (hs : s.size ≤ 140737488351232) (w : World) :
    Calls Tryd.prog 65 #[.string s] w (URet (quoteAt s 1) w) := by
  obtain ⟨i0, hi, hz0, hz1, hz2⟩ := info_parts nf_byte
  have hbt := bt_nat s
  have hq0 := q_start s 1
  generalize quoteAt s 1 = R at hq0
  have HQ := Lib.hid hq0
  clear hq0
  go_enter Tryd.func65, Tryd.ntmps65
  go_wp2
  go_loopw [5, 6] (fun v i wr => QRel w s R v i wr) (fun _ i _ => s.size - (intOf i).toNat)
  case atStart => exact ⟨1, [], h0s, by simp, by go_num, ow_nil _ _ _ _, HQ.out, bl_refl w⟩
  case round =>
    clear HQ
    obtain ⟨k, acc, hk, hacc, rfl, hown, hq, hb⟩ := hrel
    have HQ := Lib.hid hq
    clear hq
    have hsz := hb.size
    obtain ⟨A1, c1, rfl⟩ := ow_slice hown
    by_cases h1 : k < s.size
    · by_cases h2 : bt s k = 34
      · have t2 : (bt s k == 34) = true := by simp [h2]
        have HR := Lib.hid (q_done HQ.out h1 h2)
        have hcv := own_string (P := Tryd.prog) (dst := 9) Tryd.underlying152 Tryd.underlying5 Tryd.underlying9 hown
        clear h2
        go_wp2
        go_ret3
        rw [HR.out]
        exact ⟨by simp, hb⟩
      · have t2 : (bt s k == 34) = false := by simp [h2]
        by_cases h3 : bt s k = 10
        · have t3 : (bt s k == 10) = true := by simp [h3]
          have HR := Lib.hid (q_none HQ.out (q_line h1 h3))
          clear h2 h3
          go_wp2
          go_ret3
          rw [HR.out]
          exact ⟨rfl, hb⟩
        · have t3 : (bt s k == 10) = false := by simp [h3]
          by_cases h4 : bt s k = 92
          · have t4 : (bt s k == 92) = true := by simp [h4]
            by_cases h5 : k + 1 < s.size
            · have t5 : ((k : Int) + 1 == (s.size : Int)) = false := beq_eq_false_iff_ne.2 (by omega)
              have hb0 := hbt k
              have hb1 := hbt (k + 1)
              have hb2 := hbt (k + 2)
              have hb3 := hbt (k + 3)
              clear hbt
              by_cases h6 : bt s (k + 1 : Nat) = 34 ∨ bt s (k + 1 : Nat) = 92
              · have HN := Lib.hid (q_step HQ.out (q_self h5 h4 h6))
                have hc : (bt s (k + 1 : Nat) == 34) = true ∨ ((bt s (k + 1 : Nat) == 34) = false ∧ (bt s (k + 1 : Nat) == 92) = true) := two_ways h6
                generalize bt s (k + 1 : Nat) = c at hb1 HN hc
                have hsn := nums_snoc .u8 acc c
                have HS := Lib.hid hsn
                clear h2 h3 h4 h6 hsn hb2 hb3
                rcases hc with u1 | ⟨u1, u2⟩
                all_goals
                  go_wp2_with (first | (at_builtin; refine wpList_append_own _ rfl _ _ 152 rfl w.heap.size 5 i0 (.int .u8 0) 1 1 Tryd.underlying152 hi hz0 hz1 hz2 rfl (by decide) _ _ _ rfl (hown.alloc _) ⟨wr.heap.size, 0, none⟩ 1 1 [.int .u8 c] rfl rfl ?c1 ?c2 ?c3 ?c4 ?c5 ?_))
                  case c1 => exact cell_one_new _ _ _
                  case c2 => simp [Value.oneCell']
                  case c3 => simp only [maxLen]; omega
                  case c4 => omega
                  case c5 => simp; omega
                  intro v' w1 hown' hgrow _
                  rw [HS.out] at hown'
                  have hb9 := ow_below _ hown hb hsz hgrow
                  clear hown hgrow
                  go_wp2
                  go_roundw
                  case rel => exact ⟨k + 2, acc ++ [c], by omega, by simp; omega, by go_num, by simpa using hown', HN.out, hb9⟩
                  case measure => simp [intOf]; omega
              · by_cases h7 : bt s (k + 1 : Nat) = 110
                · have HN := Lib.hid (q_step HQ.out (q_new h5 h4 h7))
                  generalize bt s (k + 1 : Nat) = c at hb1 HN h7
                  subst h7
                  have hsn := nums_snoc .u8 acc 10
                  have HS := Lib.hid hsn
                  clear h2 h3 h4 h6 hsn hb2 hb3
                  go_wp2_with (first | (at_builtin; refine wpList_append_own _ rfl _ _ 152 rfl w.heap.size 5 i0 (.int .u8 0) 1 1 Tryd.underlying152 hi hz0 hz1 hz2 rfl (by decide) _ _ _ rfl (hown.alloc _) ⟨wr.heap.size, 0, none⟩ 1 1 [.int .u8 10] rfl rfl ?c1 ?c2 ?c3 ?c4 ?c5 ?_))
                  case c1 => exact cell_one_new _ _ _
                  case c2 => simp [Value.oneCell']
                  case c3 => simp only [maxLen]; omega
                  case c4 => omega
                  case c5 => simp; omega
                  intro v' w1 hown' hgrow _
                  rw [HS.out] at hown'
                  have hb9 := ow_below _ hown hb hsz hgrow
                  clear hown hgrow
                  go_wp2
                  go_roundw
                  case rel => exact ⟨k + 2, acc ++ [10], by omega, by simp; omega, by go_num, by simpa using hown', HN.out, hb9⟩
                  case measure => simp [intOf]; omega
                · by_cases h8 : bt s (k + 1 : Nat) = 120
                  · have hc2 := bt_range s (k + 2 : Nat)
                    have hc3 := bt_range s (k + 3 : Nat)
                    by_cases h9 : k + 3 < s.size
                    · by_cases ha : hexv (bt s (k + 2 : Nat)) < 16
                      · by_cases hbb : hexv (bt s (k + 3 : Nat)) < 16
                        · have HN := Lib.hid (q_step HQ.out (q_hex h9 h4 h8 ha hbb))
                          generalize bt s (k + 2 : Nat) = c2 at hb2 HN hc2 ha
                          generalize bt s (k + 3 : Nat) = c3 at hb3 HN hc3 hbb
                          generalize bt s (k + 1 : Nat) = c at hb1 h8
                          subst h8
                          have g2 := (hexv_range c2).1
                          have g3 := (hexv_range c3).1
                          have H2 := fun w => dhex c2 hc2.1 hc2.2 w
                          have H3 := fun w => dhex c3 hc3.1 hc3.2 w
                          generalize hexv c2 = x2 at H2 HN g2 ha
                          generalize hexv c3 = x3 at H3 HN g3 hbb
                          have ha' : ¬ (15 < x2) := by omega
                          have hbb' : ¬ (15 < x3) := by omega
                          have hsn := nums_snoc .u8 acc (16 * x2 + x3)
                          have HS := Lib.hid hsn
                          have HH2 := Lib.hid H2
                          have HH3 := Lib.hid H3
                          clear h2 h3 h4 h6 h7 hsn H2 H3
                          go_wp2_with fail
                          refine (HH2.out _).mono ?_
                          rintro e w2 ⟨rfl, rfl⟩
                          go_wp2_with fail
                          refine (HH3.out _).mono ?_
                          rintro e w2 ⟨rfl, rfl⟩
                          go_wp2_with fail
                          have hown0 : wr.drew.ownsRow w.heap.size 5 1 (.slice A1 acc.length c1) acc.length (nums .u8 acc) := hown
                          have hb0' := bl_drew hb
                          obtain ⟨hl1, f4, f5, f6, f7, f1, f2, f3, e1, e2, e4⟩ := uq_facts k s.size acc.length x2 x3 h9 hs hacc g2 ha g3 hbb
                          have f8 := hb2 (Nat.lt_of_succ_lt h9)
                          have f9 := hb3 h9
                          refine start_ (n := 16) (S := fun w' => True) (ds := []) #[false, false, false, false, false, false, false, false, false, false, false, false, false, false, false, false] (by kernel_rfl) rfl rfl trivial (fun hHeld => ?_)
                          refine with_tabW q26.tab q26.bits (fun HT_ HW_ => ?_)
                          generalize wr.drew = w48 at hown0 hb0' hHeld ⊢
                          refine pure_ (i := 0) (N := some 78) (v := ?_) (a' := ?_) #[true, false, false, false, false, false, false, false, false, false, false, false, false, false, false, false] rfl rfl (any_of HT_.out (by kernel_rfl)) (fun _ _ _ h => h) (Or.inl ⟨by rfl, ?_⟩) ?_ ?_
                          rotate_left
                          · intro w'
                            go_simp
                            with_reducible rfl
                          rotate_left
                          · simp only [Act.put, List.setIfInBounds_toArray, List.set_cons_zero, List.set_cons_succ, i64_w, i32_w]
                            rfl
                          refine pure_ (i := 1) (N := some 79) (v := ?_) (a' := ?_) #[true, true, false, false, false, false, false, false, false, false, false, false, false, false, false, false] rfl rfl (any_of HT_.out (by kernel_rfl)) (fun _ _ _ h => h) (Or.inl ⟨by rfl, ?_⟩) ?_ ?_
                          rotate_left
                          · intro w'
                            go_simp
                            with_reducible rfl
                          rotate_left
                          · simp only [Act.put, List.setIfInBounds_toArray, List.set_cons_zero, List.set_cons_succ, i64_w, i32_w]
                            rfl
                          refine pure_ (i := 2) (N := some 80) (v := ?_) (a' := ?_) #[true, true, true, false, false, false, false, false, false, false, false, false, false, false, false, false] rfl rfl (any_of HT_.out (by kernel_rfl)) (fun _ _ _ h => h) (Or.inl ⟨by rfl, ?_⟩) ?_ ?_
                          rotate_left
                          · intro w'
                            go_simp
                            with_reducible rfl
                          rotate_left
                          · simp only [Act.put, List.setIfInBounds_toArray, List.set_cons_zero, List.set_cons_succ, i64_w, i32_w]
                            rfl
                          refine pure_ (i := 3) (N := some 81) (v := ?_) (a' := ?_) #[true, true, true, true, false, false, false, false, false, false, false, false, false, false, false, false] rfl rfl (any_of HT_.out (by kernel_rfl)) (fun _ _ _ h => h) (Or.inl ⟨by rfl, ?_⟩) ?_ ?_
                          rotate_left
                          · intro w'
                            go_simp
                            with_reducible rfl
                          rotate_left
                          · simp only [Act.put, List.setIfInBounds_toArray, List.set_cons_zero, List.set_cons_succ, i64_w, i32_w]
                            rfl
                          refine pure_ (i := 7) (N := some 85) (v := ?_) (a' := ?_) #[true, true, true, true, false, false, false, true, false, false, false, false, false, false, false, false] rfl rfl (any_of HT_.out (by kernel_rfl)) (fun _ _ _ h => h) (Or.inl ⟨by rfl, ?_⟩) ?_ ?_
                          rotate_left
                          · intro w'
                            go_simp
                            with_reducible rfl
                          rotate_left
                          · simp only [Act.put, List.setIfInBounds_toArray, List.set_cons_zero, List.set_cons_succ, i64_w, i32_w]
                            rfl
                          refine pure_ (i := 8) (N := some 86) (v := ?_) (a' := ?_) #[true, true, true, true, false, false, false, true, true, false, false, false, false, false, false, false] rfl rfl (any_of HT_.out (by kernel_rfl)) (fun _ _ _ h => h) (Or.inl ⟨by rfl, ?_⟩) ?_ ?_
                          rotate_left
                          · intro w'
                            go_simp
                            with_reducible rfl
                          rotate_left
                          · simp only [Act.put, List.setIfInBounds_toArray, List.set_cons_zero, List.set_cons_succ, i64_w, i32_w]
                            rfl
                          refine pure_ (i := 9) (N := some 87) (v := ?_) (a' := ?_) #[true, true, true, true, false, false, false, true, true, true, false, false, false, false, false, false] rfl rfl (any_of HT_.out (by kernel_rfl)) (fun _ _ _ h => h) (Or.inl ⟨by rfl, ?_⟩) ?_ ?_
                          rotate_left
                          · intro w'
                            go_simp
                            with_reducible rfl
                          rotate_left
                          · simp only [Act.put, List.setIfInBounds_toArray, List.set_cons_zero, List.set_cons_succ, i64_w, i32_w]
                            rfl
                          refine take_ (i := 4) (N := some 82) (v := ?_) (a' := ?_) #[true, true, true, true, true, false, false, true, true, true, false, false, false, false, false, false] rfl rfl (take_ofW HT_.out HW_.out (by kernel_rfl)) (fun _ _ _ h => h) (Or.inl ⟨by rfl, ?_⟩) hHeld ?_ ?_
                          rotate_left
                          · intro w' _
                            go_simp
                            with_reducible rfl
                          rotate_left
                          · simp only [Act.put, List.setIfInBounds_toArray, List.set_cons_zero, List.set_cons_succ, i64_w, i32_w]
                            rfl
                          refine take_ (i := 10) (N := some 88) (v := ?_) (a' := ?_) #[true, true, true, true, true, false, false, true, true, true, true, false, false, false, false, false] rfl rfl (take_ofW HT_.out HW_.out (by kernel_rfl)) (fun _ _ _ h => h) (Or.inl ⟨by rfl, ?_⟩) hHeld ?_ ?_
                          rotate_left
                          · intro w' _
                            go_simp
                            with_reducible rfl
                          rotate_left
                          · simp only [Act.put, List.setIfInBounds_toArray, List.set_cons_zero, List.set_cons_succ, i64_w, i32_w]
                            rfl
                          refine one_ (i := 5) (N := some 83) #[true, true, true, true, true, true, false, true, true, true, true, false, false, false, false, false] rfl rfl (one_of HT_.out (by kernel_rfl)) (by decide) (fun K hK => ?_)
                          refine goes_ Tryd.func88 (by kernel_rfl) rfl #[.int .u8 c2] (by rfl) rfl rfl (by simp only [List.map_toArray, List.map_cons, List.map_nil]; rfl) ?_
                          with_reducible refine (HH2.out _).mono ?_
                          rintro e w2 ⟨rfl, rfl⟩
                          refine ⟨_, rfl, ?_⟩
                          refine hK.out _ _ trivial (fun hHeld => ?_)
                          clear hK K
                          refine norm_ (a' := ?_) ?_ ?_
                          rotate_left
                          · show Act.put _ (some 83) _ = _
                            simp only [Act.put, List.setIfInBounds_toArray, List.set_cons_zero, List.set_cons_succ, i64_w, i32_w]
                            rfl
                          refine pure_ (i := 6) (N := some 84) (v := ?_) (a' := ?_) #[true, true, true, true, true, true, true, true, true, true, true, false, false, false, false, false] rfl rfl (any_of HT_.out (by kernel_rfl)) (fun _ _ _ h => h) (Or.inl ⟨by rfl, ?_⟩) ?_ ?_
                          rotate_left
                          · intro w'
                            go_simp
                            with_reducible rfl
                          rotate_left
                          · simp only [Act.put, List.setIfInBounds_toArray, List.set_cons_zero, List.set_cons_succ, i64_w, i32_w]
                            rfl
                          refine one_ (i := 11) (N := some 89) #[true, true, true, true, true, true, true, true, true, true, true, true, false, false, false, false] rfl rfl (one_of HT_.out (by kernel_rfl)) (by decide) (fun K hK => ?_)
                          refine goes_ Tryd.func88 (by kernel_rfl) rfl #[.int .u8 c3] (by rfl) rfl rfl (by simp only [List.map_toArray, List.map_cons, List.map_nil]; rfl) ?_
                          with_reducible refine (HH3.out _).mono ?_
                          rintro e w2 ⟨rfl, rfl⟩
                          refine ⟨_, rfl, ?_⟩
                          refine hK.out _ _ trivial (fun hHeld => ?_)
                          clear hK K
                          refine norm_ (a' := ?_) ?_ ?_
                          rotate_left
                          · show Act.put _ (some 89) _ = _
                            simp only [Act.put, List.setIfInBounds_toArray, List.set_cons_zero, List.set_cons_succ, i64_w, i32_w]
                            rfl
                          refine pure_ (i := 12) (N := some 90) (v := ?_) (a' := ?_) #[true, true, true, true, true, true, true, true, true, true, true, true, true, false, false, false] rfl rfl (any_of HT_.out (by kernel_rfl)) (fun _ _ _ h => h) (Or.inl ⟨by rfl, ?_⟩) ?_ ?_
                          rotate_left
                          · intro w'
                            go_simp
                            with_reducible rfl
                          rotate_left
                          · simp only [Act.put, List.setIfInBounds_toArray, List.set_cons_zero, List.set_cons_succ, i64_w, i32_w]
                            rfl
                          refine one_ (i := 13) (N := some 91) #[true, true, true, true, true, true, true, true, true, true, true, true, true, true, false, false] rfl rfl (one_of HT_.out (by kernel_rfl)) (by decide) (fun K hK => ?_)
                          refine value_ (w1 := ?_) (v := ?_) (by rfl) rfl ?_ ?_
                          rotate_left 2
                          · go_simp
                            constructor
                            · rfl
                            · rfl
                          refine hK.out _ _ trivial (fun hHeld => ?_)
                          clear hK K
                          refine norm_ (a' := ?_) ?_ ?_
                          rotate_left
                          · show Act.put _ (some 91) _ = _
                            simp only [Act.put, List.setIfInBounds_toArray, List.set_cons_zero, List.set_cons_succ, i64_w, i32_w]
                            rfl
                          refine one_ (i := 14) (N := some 92) #[true, true, true, true, true, true, true, true, true, true, true, true, true, true, true, false] rfl rfl (one_of HT_.out (by kernel_rfl)) (by decide) (fun K hK => ?_)
                          refine Kd.R_append_step (Kd.int .u8) (w0 := w) w.heap.size (by rfl) (.tmp 78) (.tmp 91) 152 5 (.int .u8 0) 1 rfl Tryd.underlying152 nf_byte rfl (by decide) Nat.one_pos (.slice A1 acc.length c1) acc (16 * x2 + x3) [.int .u8 (16 * x2 + x3)] (fun _ => True) (fun _ => False) rfl rfl ?aP (fun _ hk => hk.elim) (fun _ _ => trivial) (Kd.R_of_own hown0 (fun _ _ => trivial)) hb0' hb0'.size ?aL ?_
                          case aP => exact rfl
                          case aL => exact hl1
                          intro v1 w1 ho hb9 hg hat
                          refine hK.out _ _ trivial (fun hHeld => ?_)
                          clear hK K
                          refine norm_ (a' := ?_) ?_ ?_
                          rotate_left
                          · show Act.put _ (some 92) _ = _
                            simp only [Act.put, List.setIfInBounds_toArray, List.set_cons_zero, List.set_cons_succ, i64_w, i32_w]
                            rfl
                          refine pure_ (i := 15) (N := some 5) (v := ?_) (a' := ?_) #[true, true, true, true, true, true, true, true, true, true, true, true, true, true, true, true] rfl rfl (any_of HT_.out (by kernel_rfl)) (fun _ _ _ h => h) (Or.inl ⟨by rfl, ?_⟩) ?_ ?_
                          rotate_left
                          · intro w'
                            go_simp
                            with_reducible rfl
                          rotate_left
                          · simp only [Act.put, List.setIfInBounds_toArray, List.set_cons_zero, List.set_cons_succ, i64_w, i32_w]
                            rfl
                          refine done_ (done_of HT_.out (by kernel_rfl)) ?_
                          clear f1 f2 f3 e1 e2 e4 hHeld hown hown0
                          have hown9 := Kd.own_of_R ho
                          try go_wp2
                          go_roundw
                          case rel => exact ⟨k + 4, acc ++ [16 * x2 + x3], by omega, by simp; omega, by go_num, hown9, HN.out, hb9⟩
                          case measure => simp [intOf]; omega
                        · have HR := Lib.hid (q_none HQ.out (q_bad h5 h4 h6 h7 (fun g => hbb g.2.2.2)))
                          generalize bt s (k + 2 : Nat) = c2 at hb2 hc2 ha
                          generalize bt s (k + 3 : Nat) = c3 at hb3 hc3 hbb
                          generalize bt s (k + 1 : Nat) = c at hb1 h8
                          subst h8
                          have g2 := (hexv_range c2).1
                          have H2 := fun w => dhex c2 hc2.1 hc2.2 w
                          have H3 := fun w => dhex c3 hc3.1 hc3.2 w
                          generalize hexv c2 = x2 at H2 g2 ha
                          generalize hexv c3 = x3 at H3 hbb
                          have HH2 := Lib.hid H2
                          have HH3 := Lib.hid H3
                          clear h2 h3 h4 h6 h7 H2 H3
                          go_wp2_with fail
                          refine (HH2.out _).mono ?_
                          rintro e w2 ⟨rfl, rfl⟩
                          go_wp2_with fail
                          refine (HH3.out _).mono ?_
                          rintro e w2 ⟨rfl, rfl⟩
                          go_wp2_with fail
                          go_ret3
                          rw [HR.out]
                          exact ⟨rfl, hb⟩
                      · have HR := Lib.hid (q_none HQ.out (q_bad h5 h4 h6 h7 (fun g => ha g.2.2.1)))
                        generalize bt s (k + 2 : Nat) = c2 at hb2 hc2 ha
                        generalize bt s (k + 1 : Nat) = c at hb1 h8
                        subst h8
                        have H2 := fun w => dhex c2 hc2.1 hc2.2 w
                        generalize hexv c2 = x2 at H2 ha
                        have HH2 := Lib.hid H2
                        clear h2 h3 h4 h6 h7 H2 hb3 hc3
                        go_wp2_with fail
                        refine (HH2.out _).mono ?_
                        rintro e w2 ⟨rfl, rfl⟩
                        go_wp2_with fail
                        go_ret3
                        rw [HR.out]
                        exact ⟨rfl, hb⟩
                    · have HR := Lib.hid (q_none HQ.out (q_bad h5 h4 h6 h7 (fun g => h9 g.2.1)))
                      generalize bt s (k + 1 : Nat) = c at hb1 h8
                      subst h8
                      have h9' : (s.size : Int) ≤ (k : Int) + 1 + 2 := by omega
                      clear h2 h3 h4 h6 h7 hb2 hc2 hb3 hc3 h9
                      go_wp2_with fail
                      go_ret3
                      rw [HR.out]
                      exact ⟨rfl, hb⟩
                  · have HR := Lib.hid (q_none HQ.out (q_bad h5 h4 h6 h7 (fun g => h8 g.1)))
                    have u1 : (bt s (k + 1 : Nat) == 34) = false := beq_eq_false_iff_ne.2 fun e => h6 (.inl e)
                    have u2 : (bt s (k + 1 : Nat) == 92) = false := beq_eq_false_iff_ne.2 fun e => h6 (.inr e)
                    have u3 : (bt s (k + 1 : Nat) == 110) = false := beq_eq_false_iff_ne.2 h7
                    have u4' : (bt s (k + 1 : Nat) == 120) = false := beq_eq_false_iff_ne.2 h8
                    generalize bt s (k + 1 : Nat) = c at hb1 u1 u2 u3 u4'
                    clear h2 h3 h4 h6 h7 h8 hb2 hb3
                    go_wp2_with fail
                    go_ret3
                    rw [HR.out]
                    exact ⟨rfl, hb⟩
            · have HR := Lib.hid (q_none HQ.out (q_cut h1 h4 h5))
              have t5 : ((k : Int) + 1 == (s.size : Int)) = true := by simp; omega
              clear h2 h3 h4 h5
              go_wp2
              go_ret3
              rw [HR.out]
              exact ⟨rfl, hb⟩
          · have t4 : (bt s k == 92) = false := by simp [h4]
            have HN := Lib.hid (q_step HQ.out (q_plain h1 h2 h3 h4))
            have hsn := nums_snoc .u8 acc (bt s k)
            have HS := Lib.hid hsn
            clear h2 h3 h4 hsn
            go_wp2_with (at_builtin; refine wpList_append_own _ rfl _ _ 152 rfl w.heap.size 5 i0 (.int .u8 0) 1 1 Tryd.underlying152 hi hz0 hz1 hz2 rfl (by decide) _ _ _ rfl (hown.alloc _) ⟨wr.heap.size, 0, none⟩ 1 1 [.int .u8 (bt s k)] rfl rfl ?c1 ?c2 ?c3 ?c4 ?c5 ?_)
            case c1 => exact cell_one_new _ _ _
            case c2 => simp [Value.oneCell']
            case c3 => simp only [maxLen]; omega
            case c4 => omega
            case c5 => simp; omega
            intro v' w1 hown' hgrow _
            rw [HS.out] at hown'
            have hb1 := ow_below _ hown hb hsz hgrow
            clear hown hgrow
            go_wp2
            go_roundw
            case rel => exact ⟨k + 1, acc ++ [bt s k], by omega, by simp; omega, by go_num, by simpa using hown', HN.out, hb1⟩
            case measure => simp [intOf]; omega
    · have HR := Lib.hid (q_none HQ.out (q_over h1))
      go_wp2
      go_ret3
      rw [HR.out]
      exact ⟨rfl, hb⟩
end Go.Proofs.YtccnfklemalmeaaDoor
