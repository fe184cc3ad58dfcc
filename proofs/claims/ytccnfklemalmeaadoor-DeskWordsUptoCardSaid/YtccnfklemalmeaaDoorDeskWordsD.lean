/- desk.Words by its contract: the words, or the error. -/
import Derived.Test.YtccnfklemalmeaaDoorDeskWords
import Derived.Deep.CutBlock
import Derived.Deep.DeepCutAuto
set_option linter.unusedVariables false
set_option linter.unusedSimpArgs false
set_option maxRecDepth 100000
namespace Go.Proofs.YtccnfklemalmeaaDoor
open Go.RowKit Go.Proofs.YtccnfklemalmeaaDoor.Dw Go.Proofs.YtccnfklemalmeaaDoorW.PrintWords Go.Proofs.YtccnfklemalmeaaDoorW.PrintLast Go.Proofs.YtccnfklemalmeaaDoorW.PrintMore

set_option maxHeartbeats 2000000 in
theorem dwords (s : ByteArray) (hs : s.size ≤ 1048576) (w : World) :
    Calls Tryd.prog 34 #[.string s] w (WRetE (wordsAt s 0) w) := by
  obtain ⟨i0, hi, hz0, hz1, hz2⟩ := info_parts nf_string
  have hbt := bt_nat s
  have hq0 := w_start s
  generalize wordsAt s 0 = R at hq0
  have HQ := Lib.hid hq0
  clear hq0
  go_enter Tryd.func34, Tryd.ntmps34
  go_wp2
  go_loopw [4, 5] (fun v i wr => WRel w s R v i wr) (fun _ i _ => s.size - (intOf i).toNat)
  case atStart => exact ⟨0, [], by omega, by simp, rfl, ow_nil _ _ _ _, HQ.out, bl_refl w⟩
  case round =>
    clear HQ
    obtain ⟨k, acc, hk, hacc, rfl, hown, hq, hb⟩ := hrel
    have HQ := Lib.hid hq
    clear hq
    have hsz := hb.size
    obtain ⟨A1, c1, rfl⟩ := ow_slice hown
    by_cases h1 : k < s.size
    · have hb0 := hbt k
      clear hbt
      by_cases h2 : blankB (bt s k) = true
      · have HN := Lib.hid (w_blank HQ.out h1 h2)
        have HC := Lib.hid (fun w => dblank (bt s k) w)
        generalize bt s k = c at hb0 HC h2
        have H2 := Lib.hid h2
        clear h2
        go_wp2_with fail
        refine (HC.out _).mono ?_
        rw [H2.out]
        rintro e w2 ⟨rfl, rfl⟩
        go_wp2
        go_roundw
        case rel => exact ⟨k + 1, acc, by omega, by omega, by go_num, hown, HN.out, hb⟩
        case measure => simp [intOf]; omega
      · have h2' : blankB (bt s k) = false := by simpa using h2
        clear h2
        by_cases h3 : bt s k = 35
        · have HR := Lib.hid (w_rem HQ.out h1 h3)
          have t3 : (bt s k == 35) = true := by simp [h3]
          have HC := Lib.hid (fun w => dblank (bt s k) w)
          generalize bt s k = c at hb0 HC h2' t3
          have H2 := Lib.hid h2'
          clear h2' h3
          go_wp2_with fail
          refine (HC.out _).mono ?_
          rw [H2.out]
          rintro e w2 ⟨rfl, rfl⟩
          go_wp2
          go_ret2
          rw [HR.out]
          exact ⟨_, .nil, rfl, .inl rfl, rfl, hown, hb⟩
        · have t3 : (bt s k == 35) = false := by simp [h3]
          by_cases h4 : bt s k = 34
          · have t4 : (bt s k == 34) = true := by simp [h4]
            have HC := Lib.hid (fun w => dblank (bt s k) w)
            have HU := Lib.hid (fun w => dunquote (s.extract k s.size) (by simp; omega) (by simp; omega) w)
            have hqt := quote_tail s k hk _ 1 rfl
            cases hq : quoteAt s (k + 1) with
            | none =>
              have HR := Lib.hid (w_qnone HQ.out h1 h4 hq)
              rw [hqt, hq] at HU
              clear hqt
              generalize bt s k = c at hb0 HC h2' t3 t4
              have H2 := Lib.hid h2'
              clear h2' h3 h4 hq
              go_wp2_with fail
              refine (HC.out _).mono ?_
              rw [H2.out]
              rintro e w2 ⟨rfl, rfl⟩
              go_wp2_with fail
              refine (HU.out _).mono ?_
              rintro e w2 ⟨rfl, hb2⟩
              go_wp2
              go_ret2
              rw [HR.out]
              exact ⟨_, .desk _ 6, rfl, .inr (by simp [GErr.num]), rfl, ow_nil _ _ _ _, bl_then hb hb2⟩
            | some p =>
              obtain ⟨q, e⟩ := p
              have he := quote_end s _ (k + 1) rfl _ hq
              obtain ⟨he1, he2, -⟩ := he
              have he1' : k + 1 < e := he1
              have he2' : e ≤ s.size := he2
              clear he1 he2
              obtain ⟨n, rfl⟩ : ∃ n, e = k + n := ⟨e - k, by omega⟩
              have hbe := bt_nat s (k + n)
              have e0 : k + n - k = n := by omega
              rw [hqt, hq] at HU
              simp only [Option.map_some, e0] at HU
              clear e0 hqt
              by_cases h5 : k + n < s.size
              · have HD := Lib.hid (fun w => dblank (bt s (k + n : Nat)) w)
                by_cases h6 : blankB (bt s (k + n : Nat)) = false
                · have HR := Lib.hid (w_qbad HQ.out h1 h4 hq ⟨h5, h6⟩)
                  generalize bt s k = c at hb0 HC h2' t3 t4
                  generalize bt s (k + n : Nat) = d at hbe HD h6
                  have H2 := Lib.hid h2'
                  have H6 := Lib.hid h6
                  clear h2' h3 h4 hq h6
                  go_wp2_with fail
                  refine (HC.out _).mono ?_
                  rw [H2.out]
                  rintro e' w2 ⟨rfl, rfl⟩
                  go_wp2_with fail
                  refine (HU.out _).mono ?_
                  rintro e' w2 ⟨rfl, hb2⟩
                  go_wp2_with fail
                  refine (HD.out _).mono ?_
                  rw [H6.out]
                  rintro e' w3 ⟨rfl, rfl⟩
                  go_wp2
                  go_ret2
                  rw [HR.out]
                  exact ⟨_, .desk _ 6, rfl, .inr (by simp [GErr.num]), rfl, ow_nil _ _ _ _, bl_then hb hb2⟩
                · have h6' : blankB (bt s (k + n : Nat)) = true := by revert h6; cases blankB (bt s (k + n : Nat)) <;> simp
                  have HN := Lib.hid (w_q HQ.out h1 h4 hq (fun g => h6 g.2))
                  generalize bt s k = c at hb0 HC h2' t3 t4
                  generalize bt s (k + n : Nat) = d at hbe HD h6'
                  have H2 := Lib.hid h2'
                  have H6 := Lib.hid h6'
                  have HS := Lib.hid (strs_snoc acc (strOfNums q))
                  clear h2' h3 h4 hq h6 h6'
                  go_wp2_with fail
                  refine (HC.out _).mono ?_
                  rw [H2.out]
                  rintro e' w2 ⟨rfl, rfl⟩
                  go_wp2_with fail
                  refine (HU.out _).mono ?_
                  rintro e' w2 ⟨rfl, hb2⟩
                  have hown2 := ow_keep hown hb2
                  have hb12 := bl_then hb hb2
                  have hsz2 := hb12.size
                  clear hown hb hb2 hsz
                  go_upto_region 17 with (go_at_call 64; refine (HD.out _).mono ?_; rw [H6.out]; rintro e' w3 ⟨rfl, rfl⟩)
                  go_wp2_with (first | (at_builtin; refine wpList_append_own _ rfl _ _ 60 rfl w.heap.size 9 i0 (.string ⟨#[]⟩) 1 16 Tryd.underlying60 hi hz0 hz1 hz2 rfl (by decide) _ _ _ rfl (hown2.alloc _) ⟨w2.heap.size, 0, none⟩ 1 1 [.string (strOfNums q)] rfl rfl ?c1_1 ?c2_1 ?c3_1 ?c4_1 ?c5_1 ?_))
                  try (case c1_1 => exact cell_one_new _ _ _)
                  case c2_1 => simp [Value.oneCell']
                  case c3_1 => simp only [maxLen]; omega
                  case c4_1 => omega
                  case c5_1 => first | (simp; omega) | omega
                  intro v' w1 hown' hgrow _
                  rw [HS.out] at hown'
                  have hb9 := ow_below _ hown2 hb12 hsz2 hgrow
                  clear hown2 hgrow
                  go_wp2
                  go_roundw
                  case rel => exact ⟨k + n, acc ++ [strOfNums q], by omega, by simp; omega, by go_num, by simpa using hown', HN.out, hb9⟩
                  case measure => simp [intOf]; omega
              · have HN := Lib.hid (w_q HQ.out h1 h4 hq (fun g => h5 g.1))
                generalize bt s k = c at hb0 HC h2' t3 t4
                have H2 := Lib.hid h2'
                have HS := Lib.hid (strs_snoc acc (strOfNums q))
                clear h2' h3 h4 hq
                go_wp2_with fail
                refine (HC.out _).mono ?_
                rw [H2.out]
                rintro e' w2 ⟨rfl, rfl⟩
                go_wp2_with fail
                refine (HU.out _).mono ?_
                rintro e' w2 ⟨rfl, hb2⟩
                have hown2 := ow_keep hown hb2
                have hb12 := bl_then hb hb2
                have hsz2 := hb12.size
                clear hown hb hb2 hsz
                go_upto_region 17 with (fail)
                go_wp2_with (first | (at_builtin; refine wpList_append_own _ rfl _ _ 60 rfl w.heap.size 9 i0 (.string ⟨#[]⟩) 1 16 Tryd.underlying60 hi hz0 hz1 hz2 rfl (by decide) _ _ _ rfl (hown2.alloc _) ⟨w2.heap.size, 0, none⟩ 1 1 [.string (strOfNums q)] rfl rfl ?c1_2 ?c2_2 ?c3_2 ?c4_2 ?c5_2 ?_))
                try (case c1_2 => exact cell_one_new _ _ _)
                case c2_2 => simp [Value.oneCell']
                case c3_2 => simp only [maxLen]; omega
                case c4_2 => omega
                case c5_2 => first | (simp; omega) | omega
                intro v' w1 hown' hgrow _
                rw [HS.out] at hown'
                have hb9 := ow_below _ hown2 hb12 hsz2 hgrow
                clear hown2 hgrow
                go_wp2
                go_roundw
                case rel => exact ⟨k + n, acc ++ [strOfNums q], by omega, by simp; omega, by go_num, by simpa using hown', HN.out, hb9⟩
                case measure => simp [intOf]; omega
          · have t4 : (bt s k == 34) = false := by simp [h4]
            obtain ⟨HN0, he0⟩ := w_word HQ.out h1 h2' h3 h4
            have HN1 := Lib.hid HN0
            clear HN0
            have hle := (wordEnd_ge s _ k rfl hk).2
            have HC := Lib.hid (fun w => dblank (bt s k) w)
            generalize bt s k = c at hb0 HC h2' t3 t4
            have H2 := Lib.hid h2'
            clear h2' h3 h4
            go_wp2_with fail
            refine (HC.out _).mono ?_
            rw [H2.out]
            rintro e' w2 ⟨rfl, rfl⟩
            go_wp2
            go_loop [9] (fun v => ERel s k v) (fun v => s.size - (intOf v).toNat)
            case atStart => exact ⟨k, by omega, by omega, rfl, rfl⟩
            case round =>
              obtain ⟨e, hke, hes, rfl, hwe⟩ := hrel
              have HW := Lib.hid hwe
              clear hwe
              by_cases h5 : e < s.size
              · have hbe := bt_nat s e
                have HD := Lib.hid (fun w => dblank (bt s e) w)
                by_cases h6 : blankB (bt s e) = true
                · have e9 := HW.out.trans (wordEnd_at h5 h6)
                  rw [e9] at HN1 he0
                  generalize bt s e = d at hbe HD h6
                  have H6 := Lib.hid h6
                  clear h6 e9 hle
                  have HN := HN1
                  have HS := Lib.hid (strs_snoc acc (s.extract k e))
                  go_wp2_with (first | (go_at_call 64; refine (HD.out _).mono ?_; rw [H6.out]; rintro e' w3 ⟨rfl, rfl⟩) | (at_builtin; refine wpList_append_own _ rfl _ _ 60 rfl w.heap.size 9 i0 (.string ⟨#[]⟩) 1 16 Tryd.underlying60 hi hz0 hz1 hz2 rfl (by decide) _ _ _ rfl (hown.alloc _) ⟨wr.heap.size, 0, none⟩ 1 1 [.string (s.extract k e)] rfl rfl ?c1_3 ?c2_3 ?c3_3 ?c4_3 ?c5_3 ?_))
                  try (case c1_3 => exact cell_one_new _ _ _)
                  case c2_3 => simp [Value.oneCell']
                  case c3_3 => simp only [maxLen]; omega
                  case c4_3 => omega
                  case c5_3 => first | (simp; omega) | omega
                  intro v' w1 hown' hgrow _
                  rw [HS.out] at hown'
                  have hb9 := ow_below _ hown hb hsz hgrow
                  clear hown hgrow
                  go_wp2
                  go_roundw
                  case rel => exact ⟨e, acc ++ [(s.extract k e)], by omega, by simp; omega, by go_num, by simpa using hown', HN.out, hb9⟩
                  case measure => simp [intOf]; omega
                · have h6' : blankB (bt s e) = false := by simpa using h6
                  have HW2 := Lib.hid (HW.out.trans (wordEnd_go h5 h6'))
                  generalize bt s e = d at hbe HD h6'
                  have H6 := Lib.hid h6'
                  clear h6 h6'
                  go_wp2_with fail
                  refine (HD.out _).mono ?_
                  rw [H6.out]
                  rintro e' w3 ⟨rfl, rfl⟩
                  go_wp2
                  go_round
                  case rel => exact ⟨e + 1, by omega, by omega, by go_num, HW2.out⟩
                  case measure => simp [intOf]; omega
              · obtain rfl : e = s.size := by omega
                have e9 := HW.out.trans (wordEnd_over h5)
                rw [e9] at HN1 he0
                clear e9 hle
                have HN := HN1
                have HS := Lib.hid (strs_snoc acc (s.extract k s.size))
                go_wp2_with (first | (at_builtin; refine wpList_append_own _ rfl _ _ 60 rfl w.heap.size 9 i0 (.string ⟨#[]⟩) 1 16 Tryd.underlying60 hi hz0 hz1 hz2 rfl (by decide) _ _ _ rfl (hown.alloc _) ⟨wr.heap.size, 0, none⟩ 1 1 [.string (s.extract k s.size)] rfl rfl ?c1_4 ?c2_4 ?c3_4 ?c4_4 ?c5_4 ?_))
                try (case c1_4 => exact cell_one_new _ _ _)
                case c2_4 => simp [Value.oneCell']
                case c3_4 => simp only [maxLen]; omega
                case c4_4 => omega
                case c5_4 => first | (simp; omega) | omega
                intro v' w1 hown' hgrow _
                rw [HS.out] at hown'
                have hb9 := ow_below _ hown hb hsz hgrow
                clear hown hgrow
                go_wp2
                go_roundw
                case rel => exact ⟨s.size, acc ++ [(s.extract k s.size)], by omega, by simp; omega, by go_num, by simpa using hown', HN.out, hb9⟩
                case measure => simp [intOf]; omega
    · have HR := Lib.hid (w_over HQ.out h1)
      go_wp2
      go_ret2
      rw [HR.out]
      exact ⟨_, .nil, rfl, .inl rfl, rfl, hown, hb⟩
end Go.Proofs.YtccnfklemalmeaaDoor
