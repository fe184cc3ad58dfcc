/- The document's Words and desk.Words by contracts: the words, or the error. -/
import Derived.Test.YtccnfklemalmeaaDoorDeskUnq
set_option linter.unusedVariables false
set_option linter.unusedSimpArgs false
set_option maxRecDepth 100000
namespace Go.Proofs.YtccnfklemalmeaaDoor
open Go.RowKit Go.Proofs.YtccnfklemalmeaaDoor.Dw Go.Proofs.YtccnfklemalmeaaDoorW.PrintWords Go.Proofs.YtccnfklemalmeaaDoorW.PrintLast Go.Proofs.YtccnfklemalmeaaDoorW.PrintMore

theorem nf_string : (Tryd.prog.info? 9).map (fun i => (i.zero, i.size, i.bytes)) = some (some (.string ⟨#[]⟩), 1, 16) := by kernel_rfl
def strs (xs : List ByteArray) : List Value := xs.map Value.string
theorem strs_snoc (xs : List ByteArray) (x : ByteArray) : strs xs ++ [.string x] = strs (xs ++ [x]) := by simp [strs]
def wE (R : Option (List ByteArray)) : Int := match R with | none => 6 | some _ => 0
def wL (R : Option (List ByteArray)) : List ByteArray := match R with | none => [] | some l => l
/-- A list of texts and the error 6 or none come back. -/
def WRet (R : Option (List ByteArray)) (w : World) (e : Ending) (w' : World) : Prop :=
  ∃ v, e = .returned (.tuple #[v, .int .i64 (wE R)]) ∧ w'.ownsRow w.heap.size 9 1 v (wL R).length (strs (wL R)) ∧ Below w.heap.size w w'
def WRetE (R : Option (List ByteArray)) (w : World) (e : Ending) (w' : World) : Prop :=
  ∃ (v : Value) (E : GErr), e = .returned (.tuple #[v, E.val]) ∧ E.ok ∧ E.num = wE R ∧ w'.ownsRow w.heap.size 9 1 v (wL R).length (strs (wL R)) ∧ Below w.heap.size w w'
def WRel (w : World) (s : ByteArray) (R : Option (List ByteArray)) (v i : Value) (wr : World) : Prop :=
  ∃ (k : Nat) (acc : List ByteArray), k ≤ s.size ∧ acc.length ≤ k ∧ i = .int .i64 k ∧ wr.ownsRow w.heap.size 9 1 v acc.length (strs acc) ∧ WEnds s R acc k ∧ Below w.heap.size w wr
theorem blank_35 {c : Int} (h : c = 35) : blankB c = false := by subst h; decide
theorem blank_34 {c : Int} (h : c = 34) : blankB c = false := by subst h; decide
/-- The end of a word: a place so far, and the end stays. -/
def ERel (s : ByteArray) (k : Nat) (v : Value) : Prop := ∃ e : Nat, k ≤ e ∧ e ≤ s.size ∧ v = .int .i64 e ∧ wordEnd s k = wordEnd s e
set_option maxHeartbeats 1000000 in
theorem rwords (s : ByteArray) (hs : s.size ≤ 1048576) (w : World) :
    Calls Tryd.prog 33 #[.string s] w (WRet (wordsAt s 0) w) := by
  obtain ⟨i0, hi, hz0, hz1, hz2⟩ := info_parts nf_string
  have hbt := bt_nat s
  have hq0 := w_start s
  generalize wordsAt s 0 = R at hq0
  have HQ := Lib.hid hq0
  clear hq0
  go_enter Tryd.func33, Tryd.ntmps33
  go_wp2
  go_loopw [4, 5] (fun v i wr => WRel w s R v i wr) (fun _ i _ => s.size - (intOf i).toNat)
  case atStart => exact ⟨0, [], by omega, by simp, rfl, ow_nil _ _ _ _, HQ.out, bl_refl w⟩
  case round =>
    clear HQ
    obtain ⟨k, acc, hk, hacc, rfl, hown, hq, hb⟩ := hrel
    have HQ := Lib.hid hq
    clear hq
    have hsz := hb.size
    obtain ⟨A1, c1, rfl⟩ := ow_slice hown
    by_cases h1 : k < s.size
    · have hb0 := hbt k
      clear hbt
      by_cases h2 : blankB (bt s k) = true
      · have HN := Lib.hid (w_blank HQ.out h1 h2)
        have HC := Lib.hid (fun w => rblank (bt s k) w)
        generalize bt s k = c at hb0 HC h2
        have H2 := Lib.hid h2
        clear h2
        go_wp2_with fail
        refine (HC.out _).mono ?_
        rw [H2.out]
        rintro e w2 ⟨rfl, rfl⟩
        go_wp2
        go_roundw
        case rel => exact ⟨k + 1, acc, by omega, by omega, by go_num, hown, HN.out, hb⟩
        case measure => simp [intOf]; omega
      · have h2' : blankB (bt s k) = false := by simpa using h2
        clear h2
        by_cases h3 : bt s k = 35
        · have HR := Lib.hid (w_rem HQ.out h1 h3)
          have t3 : (bt s k == 35) = true := by simp [h3]
          have HC := Lib.hid (fun w => rblank (bt s k) w)
          generalize bt s k = c at hb0 HC h2' t3
          have H2 := Lib.hid h2'
          clear h2' h3
          go_wp2_with fail
          refine (HC.out _).mono ?_
          rw [H2.out]
          rintro e w2 ⟨rfl, rfl⟩
          go_wp2
          go_ret2
          rw [HR.out]
          exact ⟨_, rfl, hown, hb⟩
        · have t3 : (bt s k == 35) = false := by simp [h3]
          by_cases h4 : bt s k = 34
          · have t4 : (bt s k == 34) = true := by simp [h4]
            have HC := Lib.hid (fun w => rblank (bt s k) w)
            have HU := Lib.hid (fun w => rquoted s k h1 (Nat.le_trans hs (by decide)) w)
            cases hq : quoteAt s (k + 1) with
            | none =>
              have HR := Lib.hid (w_qnone HQ.out h1 h4 hq)
              rw [hq] at HU
              generalize bt s k = c at hb0 HC h2' t3 t4
              have H2 := Lib.hid h2'
              clear h2' h3 h4 hq
              go_wp2_with fail
              refine (HC.out _).mono ?_
              rw [H2.out]
              rintro e w2 ⟨rfl, rfl⟩
              go_wp2_with fail
              refine (HU.out _).mono ?_
              rintro e w2 ⟨rfl, hb2⟩
              go_wp2
              go_ret2
              rw [HR.out]
              exact ⟨_, rfl, ow_nil _ _ _ _, bl_then hb hb2⟩
            | some p =>
              obtain ⟨q, e⟩ := p
              have he := quote_end s _ (k + 1) rfl _ hq
              obtain ⟨he1, he2, -⟩ := he
              have he1' : k + 1 < e := he1
              have he2' : e ≤ s.size := he2
              clear he1 he2
              have hbe := bt_nat s e
              have e0 : ¬ ((e : Int) < 0) := by omega
              rw [hq] at HU
              by_cases h5 : e < s.size
              · have HD := Lib.hid (fun w => rblank (bt s e) w)
                by_cases h6 : blankB (bt s e) = false
                · have HR := Lib.hid (w_qbad HQ.out h1 h4 hq ⟨h5, h6⟩)
                  generalize bt s k = c at hb0 HC h2' t3 t4
                  generalize bt s e = d at hbe HD h6
                  have H2 := Lib.hid h2'
                  have H6 := Lib.hid h6
                  clear h2' h3 h4 hq h6
                  go_wp2_with fail
                  refine (HC.out _).mono ?_
                  rw [H2.out]
                  rintro e' w2 ⟨rfl, rfl⟩
                  go_wp2_with fail
                  refine (HU.out _).mono ?_
                  rintro e' w2 ⟨rfl, hb2⟩
                  go_wp2_with fail
                  refine (HD.out _).mono ?_
                  rw [H6.out]
                  rintro e' w3 ⟨rfl, rfl⟩
                  go_wp2
                  go_ret2
                  rw [HR.out]
                  exact ⟨_, rfl, ow_nil _ _ _ _, bl_then hb hb2⟩
                · have h6' : blankB (bt s e) = true := by simpa using h6
                  have HN := Lib.hid (w_q HQ.out h1 h4 hq (fun g => h6 g.2))
                  generalize bt s k = c at hb0 HC h2' t3 t4
                  generalize bt s e = d at hbe HD h6'
                  have H2 := Lib.hid h2'
                  have H6 := Lib.hid h6'
                  have HS := Lib.hid (strs_snoc acc (strOfNums q))
                  clear h2' h3 h4 hq h6 h6'
                  go_wp2_with fail
                  refine (HC.out _).mono ?_
                  rw [H2.out]
                  rintro e' w2 ⟨rfl, rfl⟩
                  go_wp2_with fail
                  refine (HU.out _).mono ?_
                  rintro e' w2 ⟨rfl, hb2⟩
                  have hown2 := ow_keep hown hb2
                  have hb12 := bl_then hb hb2
                  have hsz2 := hb12.size
                  clear hown hb hb2 hsz
                  go_wp2_with (first | (go_at_call 62; refine (HD.out _).mono ?_; rw [H6.out]; rintro e' w3 ⟨rfl, rfl⟩) | (at_builtin; refine wpList_append_own _ rfl _ _ 60 rfl w.heap.size 9 i0 (.string ⟨#[]⟩) 1 16 Tryd.underlying60 hi hz0 hz1 hz2 rfl (by decide) _ _ _ rfl (hown2.alloc _) ⟨w2.heap.size, 0, none⟩ 1 1 [.string (strOfNums q)] rfl rfl ?c1 ?c2 ?c3 ?c4 ?c5 ?_))
                  try (case c1 => exact cell_one_new _ _ _)
                  case c2 => simp [Value.oneCell']
                  case c3 => simp only [maxLen]; omega
                  case c4 => omega
                  case c5 => first | (simp; omega) | omega
                  intro v' w1 hown' hgrow _
                  rw [HS.out] at hown'
                  have hb9 := ow_below _ hown2 hb12 hsz2 hgrow
                  clear hown2 hgrow
                  go_wp2
                  go_roundw
                  case rel => exact ⟨e, acc ++ [strOfNums q], by omega, by simp; omega, by go_num, by simpa using hown', HN.out, hb9⟩
                  case measure => simp [intOf]; omega
              · have HN := Lib.hid (w_q HQ.out h1 h4 hq (fun g => h5 g.1))
                generalize bt s k = c at hb0 HC h2' t3 t4
                have H2 := Lib.hid h2'
                have HS := Lib.hid (strs_snoc acc (strOfNums q))
                clear h2' h3 h4 hq
                go_wp2_with fail
                refine (HC.out _).mono ?_
                rw [H2.out]
                rintro e' w2 ⟨rfl, rfl⟩
                go_wp2_with fail
                refine (HU.out _).mono ?_
                rintro e' w2 ⟨rfl, hb2⟩
                have hown2 := ow_keep hown hb2
                have hb12 := bl_then hb hb2
                have hsz2 := hb12.size
                clear hown hb hb2 hsz
                go_wp2_with (first | (at_builtin; refine wpList_append_own _ rfl _ _ 60 rfl w.heap.size 9 i0 (.string ⟨#[]⟩) 1 16 Tryd.underlying60 hi hz0 hz1 hz2 rfl (by decide) _ _ _ rfl (hown2.alloc _) ⟨w2.heap.size, 0, none⟩ 1 1 [.string (strOfNums q)] rfl rfl ?c1 ?c2 ?c3 ?c4 ?c5 ?_))
                try (case c1 => exact cell_one_new _ _ _)
                case c2 => simp [Value.oneCell']
                case c3 => simp only [maxLen]; omega
                case c4 => omega
                case c5 => first | (simp; omega) | omega
                intro v' w1 hown' hgrow _
                rw [HS.out] at hown'
                have hb9 := ow_below _ hown2 hb12 hsz2 hgrow
                clear hown2 hgrow
                go_wp2
                go_roundw
                case rel => exact ⟨e, acc ++ [strOfNums q], by omega, by simp; omega, by go_num, by simpa using hown', HN.out, hb9⟩
                case measure => simp [intOf]; omega
          · have t4 : (bt s k == 34) = false := by simp [h4]
            obtain ⟨HN0, he0⟩ := w_word HQ.out h1 h2' h3 h4
            have HN1 := Lib.hid HN0
            clear HN0
            have hle := (wordEnd_ge s _ k rfl hk).2
            have HC := Lib.hid (fun w => rblank (bt s k) w)
            generalize bt s k = c at hb0 HC h2' t3 t4
            have H2 := Lib.hid h2'
            clear h2' h3 h4
            go_wp2_with fail
            refine (HC.out _).mono ?_
            rw [H2.out]
            rintro e' w2 ⟨rfl, rfl⟩
            go_wp2
            go_loop [8] (fun v => ERel s k v) (fun v => s.size - (intOf v).toNat)
            case atStart => exact ⟨k, by omega, by omega, rfl, rfl⟩
            case round =>
              obtain ⟨e, hke, hes, rfl, hwe⟩ := hrel
              have HW := Lib.hid hwe
              clear hwe
              by_cases h5 : e < s.size
              · have hbe := bt_nat s e
                have HD := Lib.hid (fun w => rblank (bt s e) w)
                by_cases h6 : blankB (bt s e) = true
                · have e9 := HW.out.trans (wordEnd_at h5 h6)
                  rw [e9] at HN1 he0
                  generalize bt s e = d at hbe HD h6
                  have H6 := Lib.hid h6
                  clear h6 e9 hle
                  have HN := HN1
                  have HS := Lib.hid (strs_snoc acc (s.extract k e))
                  go_wp2_with (first | (go_at_call 62; refine (HD.out _).mono ?_; rw [H6.out]; rintro e' w3 ⟨rfl, rfl⟩) | (at_builtin; refine wpList_append_own _ rfl _ _ 60 rfl w.heap.size 9 i0 (.string ⟨#[]⟩) 1 16 Tryd.underlying60 hi hz0 hz1 hz2 rfl (by decide) _ _ _ rfl (hown.alloc _) ⟨wr.heap.size, 0, none⟩ 1 1 [.string (s.extract k e)] rfl rfl ?c1 ?c2 ?c3 ?c4 ?c5 ?_))
                  try (case c1 => exact cell_one_new _ _ _)
                  case c2 => simp [Value.oneCell']
                  case c3 => simp only [maxLen]; omega
                  case c4 => omega
                  case c5 => first | (simp; omega) | omega
                  intro v' w1 hown' hgrow _
                  rw [HS.out] at hown'
                  have hb9 := ow_below _ hown hb hsz hgrow
                  clear hown hgrow
                  go_wp2
                  go_roundw
                  case rel => exact ⟨e, acc ++ [(s.extract k e)], by omega, by simp; omega, by go_num, by simpa using hown', HN.out, hb9⟩
                  case measure => simp [intOf]; omega
                · have h6' : blankB (bt s e) = false := by simpa using h6
                  have HW2 := Lib.hid (HW.out.trans (wordEnd_go h5 h6'))
                  generalize bt s e = d at hbe HD h6'
                  have H6 := Lib.hid h6'
                  clear h6 h6'
                  go_wp2_with fail
                  refine (HD.out _).mono ?_
                  rw [H6.out]
                  rintro e' w3 ⟨rfl, rfl⟩
                  go_wp2
                  go_round
                  case rel => exact ⟨e + 1, by omega, by omega, by go_num, HW2.out⟩
                  case measure => simp [intOf]; omega
              · obtain rfl : e = s.size := by omega
                have e9 := HW.out.trans (wordEnd_over h5)
                rw [e9] at HN1 he0
                clear e9 hle
                have HN := HN1
                have HS := Lib.hid (strs_snoc acc (s.extract k s.size))
                go_wp2_with (first | (at_builtin; refine wpList_append_own _ rfl _ _ 60 rfl w.heap.size 9 i0 (.string ⟨#[]⟩) 1 16 Tryd.underlying60 hi hz0 hz1 hz2 rfl (by decide) _ _ _ rfl (hown.alloc _) ⟨wr.heap.size, 0, none⟩ 1 1 [.string (s.extract k s.size)] rfl rfl ?c1 ?c2 ?c3 ?c4 ?c5 ?_))
                try (case c1 => exact cell_one_new _ _ _)
                case c2 => simp [Value.oneCell']
                case c3 => simp only [maxLen]; omega
                case c4 => omega
                case c5 => first | (simp; omega) | omega
                intro v' w1 hown' hgrow _
                rw [HS.out] at hown'
                have hb9 := ow_below _ hown hb hsz hgrow
                clear hown hgrow
                go_wp2
                go_roundw
                case rel => exact ⟨s.size, acc ++ [(s.extract k s.size)], by omega, by simp; omega, by go_num, by simpa using hown', HN.out, hb9⟩
                case measure => simp [intOf]; omega
    · have HR := Lib.hid (w_over HQ.out h1)
      go_wp2
      go_ret2
      rw [HR.out]
      exact ⟨_, rfl, hown, hb⟩
end Go.Proofs.YtccnfklemalmeaaDoor
