/- Joined texts of this proof: CalW, CalD. -/
import Derived.Lib.Hide
import Derived.Deep.LoopGhost
import Derived.Deep.Draws
import Derived.Deep.Cut
import Derived.Deep.CutBlock
import Derived.Deep.DeepCutAuto
import Derived.Test.YtphabkaiheplpaaGreatDoorRests1
import Derived.Test.YtphabkaiheplpaaGreatDoorRests5
/- calendar.Of by its contract: a day has a date, what is no day has an error. -/
set_option linter.unusedVariables false
set_option linter.unusedSimpArgs false
set_option maxRecDepth 100000
namespace Go.Proofs.YtphabkaiheplpaaGreatDoor
open Go.RowKit

set_option maxHeartbeats 4000000 in
theorem ahead_any (m : Nat) (h1 : 1 ≤ m) (h2 : m ≤ 13) (w : World) : Calls Tryz.prog 160 #[.int .i64 m] w fun e w' => e = .returned (.int .i64 (aheadF m)) ∧ Below w.heap.size w w' := by
  have hm : m = 1 ∨ m = 2 ∨ m = 3 ∨ m = 4 ∨ m = 5 ∨ m = 6 ∨ m = 7 ∨ m = 8 ∨ m = 9 ∨ m = 10 ∨ m = 11 ∨ m = 12 ∨ m = 13 := by omega
  clear h1 h2
  rcases hm with rfl | rfl | rfl | rfl | rfl | rfl | rfl | rfl | rfl | rfl | rfl | rfl | rfl
  all_goals
    go_enter Tryz.func160, Tryz.ntmps160
    go_wp2
    go_ret
    exact ⟨rfl, by repeat (first | exact bl_refl _ | apply bl_alloc)⟩
theorem leap_any (y : Int) (h : 0 ≤ y) (w : World) : Calls Tryz.prog 161 #[.int .i64 y] w fun e w' => e = .returned (.bool (leapY y)) ∧ w = w' := by
  have e4 : y.tmod 4 = y % 4 := Int.tmod_eq_emod_of_nonneg h
  have e100 : y.tmod 100 = y % 100 := Int.tmod_eq_emod_of_nonneg h
  have e400 : y.tmod 400 = y % 400 := Int.tmod_eq_emod_of_nonneg h
  unfold leapY
  by_cases h4 : y % 4 = 0
  · by_cases h100 : y % 100 = 0
    · by_cases h400 : y % 400 = 0
      · rw [decide_eq_true h4, decide_eq_true h100, decide_eq_true h400]
        go_enter Tryz.func161, Tryz.ntmps161
        go_wp2
        go_ret
        exact ⟨rfl, rfl⟩
      · have b4 : (y % 400 == 0) = false := by simp [h400]
        rw [decide_eq_true h4, decide_eq_true h100, decide_eq_false h400]
        go_enter Tryz.func161, Tryz.ntmps161
        go_wp2
        go_ret
        exact ⟨rfl, rfl⟩
    · have b1 : (y % 100 != 0) = true := by simp [h100]
      rw [decide_eq_true h4, decide_eq_false h100]
      go_enter Tryz.func161, Tryz.ntmps161
      go_wp2
      go_ret
      exact ⟨rfl, rfl⟩
  · have b4 : (y % 4 == 0) = false := by simp [h4]
    rw [decide_eq_false h4]
    go_enter Tryz.func161, Tryz.ntmps161
    go_wp2
    go_ret
    exact ⟨rfl, rfl⟩
theorem length_any (y : Int) (m : Nat) (hy : 0 ≤ y) (h1 : 1 ≤ m) (h2 : m ≤ 12) (w : World) : Calls Tryz.prog 140 #[.int .i64 y, .int .i64 m] w fun e w' => e = .returned (.int .i64 (lenF (leapY y) m)) ∧ Below w.heap.size w w' := by
  have A1 := fun w => ahead_any m h1 (by omega) w
  have A2 := fun w => ahead_any (m + 1) (by omega) (by omega) w
  have L := fun w => leap_any y hy w
  have em : (m : Int) + 1 = ((m + 1 : Nat) : Int) := by omega
  have rm : IntKind.i64.wrap ((m + 1 : Nat) : Int) = ((m + 1 : Nat) : Int) := by rw [IntKind.wrap_i64]; omega
  have hd : 28 ≤ aheadF (m + 1) - aheadF m ∧ aheadF (m + 1) - aheadF m ≤ 31 := by
    have := lenF_range (lp := false) h1 h2
    unfold lenF at this
    simp at this
    exact this
  unfold lenF
  generalize aheadF (m + 1) = a at A2 hd ⊢
  generalize aheadF m = b at A1 hd ⊢
  generalize leapY y = lp at L ⊢
  generalize m + 1 = m1 at em rm A2
  have rd : IntKind.i64.wrap (a - b) = a - b := by rw [IntKind.wrap_i64]; omega
  have rd1 : IntKind.i64.wrap (a - b + 1) = a - b + 1 := by rw [IntKind.wrap_i64]; omega
  have H1 := Lib.hid A1
  have H2 := Lib.hid A2
  have H3 := Lib.hid L
  clear A1 A2 L hd h1 h2
  by_cases e : m = 2
  · have b2 : ((m : Int) == 2) = true := by simp; omega
    have HE := Lib.hid e
    clear e
    cases lp with
    | false =>
      rw [if_neg (fun h => by cases h.2), Int.add_zero]
      go_enter Tryz.func140, Tryz.ntmps140
      go_wp2_with (first | (go_at_call 160; first | (with_reducible refine (H2.out _).mono ?_; rintro e w1 ⟨rfl, hb1⟩; have B1 := Lib.hid hb1; clear hb1) | (with_reducible refine (H1.out _).mono ?_; rintro e w2 ⟨rfl, hb2⟩; have B2 := Lib.hid (bl_then B1.out hb2); clear hb2)) | (go_at_call 161; with_reducible refine (H3.out _).mono ?_; rintro e w3 ⟨rfl, rfl⟩))
      go_ret
      exact ⟨by simp, B2.out⟩
    | true =>
      rw [if_pos ⟨HE.out, rfl⟩]
      go_enter Tryz.func140, Tryz.ntmps140
      go_wp2_with (first | (go_at_call 160; first | (with_reducible refine (H2.out _).mono ?_; rintro e w1 ⟨rfl, hb1⟩; have B1 := Lib.hid hb1; clear hb1) | (with_reducible refine (H1.out _).mono ?_; rintro e w2 ⟨rfl, hb2⟩; have B2 := Lib.hid (bl_then B1.out hb2); clear hb2)) | (go_at_call 161; with_reducible refine (H3.out _).mono ?_; rintro e w3 ⟨rfl, rfl⟩))
      go_ret
      exact ⟨by simp, B2.out⟩
  · have b2 : ((m : Int) == 2) = false := by simp; omega
    rw [if_neg (fun h => e h.1), Int.add_zero]
    clear e
    go_enter Tryz.func140, Tryz.ntmps140
    go_wp2_with (first | (go_at_call 160; first | (with_reducible refine (H2.out _).mono ?_; rintro e w1 ⟨rfl, hb1⟩; have B1 := Lib.hid hb1; clear hb1) | (with_reducible refine (H1.out _).mono ?_; rintro e w2 ⟨rfl, hb2⟩; have B2 := Lib.hid (bl_then B1.out hb2); clear hb2)))
    go_ret
    exact ⟨by simp, B2.out⟩

theorem isDay_any (n : Int) (w : World) : Calls Tryz.prog 118 #[.int .i64 n] w fun e w' => e = .returned (.bool (decide (1 ≤ n) && decide (n ≤ 3652059))) ∧ w = w' := by
  by_cases h1 : 1 ≤ n
  · rw [decide_eq_true h1]
    go_enter Tryz.func118, Tryz.ntmps118
    go_wp2
    all_goals (go_ret; exact ⟨by simp [*], rfl⟩)
  · rw [decide_eq_false h1]
    go_enter Tryz.func118, Tryz.ntmps118
    go_wp2
    all_goals (go_ret; exact ⟨by simp [*], rfl⟩)
end Go.Proofs.YtphabkaiheplpaaGreatDoor
/- calendar.Of by its contract: a day has a date, what is no day has an error. -/
set_option linter.unusedVariables false
set_option linter.unusedSimpArgs false
set_option maxRecDepth 100000
namespace Go.Proofs.YtphabkaiheplpaaGreatDoor
open Go.RowKit

/-- One struct of three cells comes back. -/
theorem results_cell {fn : Func} {P : Program} {i : Tmp} {t : TypeId} (h : fn.results = #[.cell i t]) (tmps : Array Value) {a : Addr} {w : World} {v1 : Value} (ha : tmps.getD i undef = .pointer (some a))
    (l1 : (loadVar t a).run P w = .ok v1 w) : (results fn tmps).run P w = .ok v1 w := by
  unfold results
  rw [h]
  simp only [Array.mapM_eq_mapM_toList, List.mapM_cons, List.mapM_nil, ha, asAddr, Sem.run_bind, Sem.run_pure, Sem.run_map, Result.andThen_ok, l1, pure_bind, bind_pure_comp]
  rfl

theorem cell_far {w : World} {g i j : Nat} {v : Value} (h : i ≠ j) : (w.setCell ⟨g, i, none⟩ v).cell? ⟨g, j, none⟩ = w.cell? ⟨g, j, none⟩ := World.cell?_setCell_other _ _ _ _ (fun e => h (by injection e))
def tri (w : World) (g : Nat) (a b c : Value) : World := ((w.setCell ⟨g, 0, none⟩ a).setCell ⟨g, 1, none⟩ b).setCell ⟨g, 2, none⟩ c
theorem tri_cells {w : World} {g : Nat} {a b c a' b' c' : Value} (h0 : w.cell? ⟨g, 0, none⟩ = some a) (h1 : w.cell? ⟨g, 1, none⟩ = some b) (h2 : w.cell? ⟨g, 2, none⟩ = some c) :
    (tri w g a' b' c').cell? ⟨g, 0, none⟩ = some a' ∧ (tri w g a' b' c').cell? ⟨g, 1, none⟩ = some b' ∧ (tri w g a' b' c').cell? ⟨g, 2, none⟩ = some c' := by
  unfold tri
  refine ⟨?_, ?_, ?_⟩
  · rw [cell_far (by decide), cell_far (by decide), World.cell?_setCell_same _ _ _ h0]
  · rw [cell_far (by decide), World.cell?_setCell_same (u := b) _ _ _ (by rw [cell_far (by decide)]; exact h1)]
  · rw [World.cell?_setCell_same (u := c) _ _ _ (by rw [cell_far (by decide), cell_far (by decide)]; exact h2)]
theorem tri_below {w W : World} {g : Nat} (h : Below w.heap.size w W) (hg : w.heap.size ≤ g) (a b c : Value) : Below w.heap.size w (tri W g a b c) := bl_set (bl_set (bl_set h hg a) hg b) hg c

theorem date_any (n0 : Int) (h1 : 1 ≤ n0) (h2 : n0 ≤ 3652059) (w : World) : Calls Tryz.prog 119 #[.int .i64 n0] w fun e w' => (∃ a b c : Int, e = .returned (.agg #[.int .i64 a, .int .i64 b, .int .i64 c])) ∧ Below w.heap.size w w' := by
  obtain ⟨n1, hn1⟩ : ∃ n, n = n0 - 1 := ⟨_, rfl⟩
  obtain ⟨A, hA⟩ : ∃ n, n = n1 / 146097 := ⟨_, rfl⟩
  obtain ⟨n2, hn2⟩ : ∃ n, n = n1 % 146097 := ⟨_, rfl⟩
  obtain ⟨c, hc⟩ : ∃ c, (c = n2 / 36524 ∧ n2 / 36524 ≤ 3) ∨ (c = 3 ∧ 3 < n2 / 36524) := by
    by_cases h : n2 / 36524 ≤ 3
    · exact ⟨_, .inl ⟨rfl, h⟩⟩
    · exact ⟨3, .inr ⟨rfl, by omega⟩⟩
  obtain ⟨n3, hn3⟩ : ∃ n, n = n2 - c * 36524 := ⟨_, rfl⟩
  obtain ⟨f, hf⟩ : ∃ f, f = n3 / 1461 := ⟨_, rfl⟩
  obtain ⟨n4, hn4⟩ : ∃ n, n = n3 - f * 1461 := ⟨_, rfl⟩
  obtain ⟨o, ho⟩ : ∃ o, (o = n4 / 365 ∧ n4 / 365 ≤ 3) ∨ (o = 3 ∧ 3 < n4 / 365) := by
    by_cases h : n4 / 365 ≤ 3
    · exact ⟨_, .inl ⟨rfl, h⟩⟩
    · exact ⟨3, .inr ⟨rfl, by omega⟩⟩
  obtain ⟨n5, hn5⟩ : ∃ n, n = n4 - o * 365 := ⟨_, rfl⟩
  obtain ⟨y, hy⟩ : ∃ y, y = 400 * A + 1 + (100 * c + 4 * f + o) := ⟨_, rfl⟩
  have E := era_steps (n := n2) (c := c) (f := f) (o := o) (by omega) (by omega) hc (by rw [← hn3]; exact hf) (by rw [← hn3, ← hn4]; exact ho)
  rw [← hn3, ← hn4, ← hn5] at E
  obtain ⟨e1, e2, e3, e4, e5, e6, e7, e8, e9, e10, e11⟩ := E
  have IY := InYear.start (lp := leapY y) e9 e10 fun e => leap_of hy ⟨e1, e2⟩ ⟨e3, e4⟩ (e11 e).1 (e11 e).2
  have hA0 : 0 ≤ A ∧ A ≤ 25 := by omega
  have y0 : 0 ≤ y ∧ y ≤ 20000 := by omega
  have q1 : n1.tdiv 146097 = A := by rw [hA]; exact Int.tdiv_eq_ediv_of_nonneg (by omega)
  have q2 : n1.tmod 146097 = n2 := by rw [hn2]; exact Int.tmod_eq_emod_of_nonneg (by omega)
  have q3 : n2.tdiv 36524 = n2 / 36524 := Int.tdiv_eq_ediv_of_nonneg (by omega)
  have q4 : n3.tdiv 1461 = f := by rw [hf]; exact Int.tdiv_eq_ediv_of_nonneg (by omega)
  have q5 : n4.tdiv 365 = n4 / 365 := Int.tdiv_eq_ediv_of_nonneg (by omega)
  have HIY := Lib.hid IY
  have HC := Lib.hid hc
  have HO := Lib.hid ho
  go_enter Tryz.func119, Tryz.ntmps119
  go_upto_region 4 with fail
  have g1 : (n0 - 1) % 146097 = n2 := by rw [hn2, hn1]
  have g2 : (n0 - 1) / 146097 = A := by rw [hA, hn1]
  rw [g1, g2]
  clear g1 g2 hn1 hA hn2
  go_upto_region 6 with fail
  have gc : (if 3 < n2 / 36524 then 3 else n2 / 36524) = c := by
    rcases HC.out with ⟨a, b⟩ | ⟨a, b⟩
    · rw [if_neg (by omega), a]
    · rw [if_pos b, a]
  rw [gc, ← hn3]
  clear gc hn3 hc q3
  go_upto_region 8 with fail
  have g4 : n3 / 1461 = f := hf.symm
  rw [g4, ← hn4]
  clear g4 hf hn4 q4
  go_upto_region 10 with fail
  have go_ : (if 3 < n4 / 365 then 3 else n4 / 365) = o := by
    rcases HO.out with ⟨a, b⟩ | ⟨a, b⟩
    · rw [if_neg (by omega), a]
    · rw [if_pos b, a]
  rw [go_, ← hn5]
  clear go_ hn5 ho q5
  go_upto_region 11 with fail
  rw [← hy]
  have LN := Lib.hid (fun (m : Nat) (a : 1 ≤ m) (b : m ≤ 12) w => length_any y m y0.1 a b w)
  have HY := Lib.hid y0
  have W0 := Lib.hid (bl_refl (w.alloc (.cells #[.int .i64 0, .int .i64 0, .int .i64 0] 162)))
  clear hy h1 h2 e1 e2 e3 e4 e5 e6 e7 e8 e9 e10 e11 hA0 y0 q1 q2 HC HO IY
  go_wp2
  go_loopg [0, 7] 12 (fun gg vn vm wr => ∃ (m : Nat) (n : Int), vn = .int .i64 n ∧ vm = .int .i64 m ∧ 12 - m ≤ gg ∧ Hid (InYear (leapY y) m n) ∧ Hid (Below (w.alloc (.cells #[.int .i64 0, .int .i64 0, .int .i64 0] 162)).heap.size (w.alloc (.cells #[.int .i64 0, .int .i64 0, .int .i64 0] 162)) wr))
  case atStart => exact ⟨1, n5, rfl, rfl, by omega, HIY, W0⟩
  case round =>
    clear HIY W0
    obtain ⟨m, n, rfl, rfl, hg, I, B⟩ := hrel
    obtain ⟨m1, m2, i0, i1⟩ := I.out
    have hn : n ≤ 366 := by
      have : 0 ≤ aheadF m := by
        have hm : m = 1 ∨ m = 2 ∨ m = 3 ∨ m = 4 ∨ m = 5 ∨ m = 6 ∨ m = 7 ∨ m = 8 ∨ m = 9 ∨ m = 10 ∨ m = 11 ∨ m = 12 := by omega
        rcases hm with rfl | rfl | rfl | rfl | rfl | rfl | rfl | rfl | rfl | rfl | rfl | rfl <;> simp [aheadF]
      have : (if m ≤ 2 ∧ leapY y = true then (1 : Int) else 0) ≤ 1 := by split <;> omega
      omega
    have LM := Lib.hid (LN.out m m1 m2)
    have lr := lenF_range (lp := leapY y) m1 m2
    have ST := Lib.hid (fun h => InYear.step I.out (n := n) (m := m) (lp := leapY y) h)
    obtain ⟨ln, hln⟩ : ∃ x, x = lenF (leapY y) m := ⟨_, rfl⟩
    rw [← hln] at LM lr ST
    have wn : IntKind.i64.wrap (n - ln) = n - ln := by rw [IntKind.wrap_i64]; omega
    clear i1 hln
    by_cases hle : ln ≤ n
    · have S2 := Lib.hid (ST.out hle)
      go_wp2_with (first | (go_at_call 140; first | (with_reducible refine (LM.out wr).mono ?_; rintro e w1 ⟨rfl, hb1⟩; have B1 := Lib.hid (bl_then B.out hb1); clear hb1) | (with_reducible refine (LM.out _).mono ?_; rintro e w2 ⟨rfl, hb2⟩; have B2 := Lib.hid (bl_then B1.out hb2); clear hb2)))
      go_roundg (12 - (m + 1))
      case measure =>
        have := S2.out.2.1
        omega
      case rel => exact ⟨m + 1, n - ln, rfl, by go_num, by omega, S2, B2⟩
    · go_upto_region 15 with (first | (go_at_call 140; with_reducible refine (LM.out wr).mono ?_; rintro e w1 ⟨rfl, hb1⟩; have B1 := Lib.hid (bl_then B.out hb1); clear hb1))
      have f0 := new_free B1.out 0
      have f1 := new_free B1.out 1
      have f2 := new_free B1.out 2
      have c0 := bl_cell (a := ⟨w.heap.size, 0, none⟩) (v := .int .i64 0) B1.out (by simp)
      have c1 := bl_cell (a := ⟨w.heap.size, 1, none⟩) (v := .int .i64 0) B1.out (by simp)
      have c2 := bl_cell (a := ⟨w.heap.size, 2, none⟩) (v := .int .i64 0) B1.out (by simp)
      have BT := tri_below (bl_then (bl_alloc (bl_refl w) _) B1.out) (Nat.le_refl _) (.int .i64 y) (.int .i64 m) (.int .i64 (n + 1))
      have TC := tri_cells (a' := .int .i64 y) (b' := .int .i64 m) (c' := .int .i64 (n + 1)) c0 c1 c2
      have HT := Lib.hid TC
      have HBT := Lib.hid BT
      have wn1 : IntKind.i64.wrap (n + 1) = n + 1 := by rw [IntKind.wrap_i64]; omega
      clear TC BT
      go_wp2
      refine bodyPost_ret (v := .agg #[.int .i64 y, .int .i64 m, .int .i64 (n + 1)]) (by have := HT.out; simp only [tri] at this; simp [results, Tryz.results119, go_sem, this.1, this.2.1, this.2.2]) rfl ⟨⟨_, _, _, rfl⟩, HBT.out⟩

/-- Is it a day? -/
def dayB (n : Int) : Bool := decide (1 ≤ n) && decide (n ≤ 3652059)
theorem calOf_any (n : Int) (w : World) : Calls Tryz.prog 87 #[.int .i64 n] w fun e w' => ∃ (a b c : Int) (E : GErr), e = .returned (.tuple #[.agg #[.int .i64 a, .int .i64 b, .int .i64 c], E.val]) ∧ E.isNil = dayB n ∧ Below w.heap.size w w' := by
  have ID := fun w => isDay_any n w
  by_cases h : dayB n = true
  · have h' := h
    unfold dayB at h'
    rw [h'] at ID
    have h1 : 1 ≤ n ∧ n ≤ 3652059 := by simpa using h'
    have DT := Lib.hid (fun w => date_any n h1.1 h1.2 w)
    have HI := Lib.hid ID
    have HH := Lib.hid h
    clear ID h h' h1
    go_enter Tryz.func87, Tryz.ntmps87
    go_upto_region 3 with (first | (go_at_call 118; with_reducible refine (HI.out _).mono ?_; rintro e w1 ⟨rfl, rfl⟩))
    have f0 := World.frozen?_alloc_new w #[.int .i64 0, .int .i64 0, .int .i64 0] 162 0
    have B0 := Lib.hid (bl_refl (w.alloc (.cells #[.int .i64 0, .int .i64 0, .int .i64 0] 162)))
    go_wp2_with (first | (go_at_call 119; with_reducible refine (DT.out _).mono ?_; rintro e w1 ⟨⟨a, b, c, rfl⟩, hb1⟩; have B1 := Lib.hid hb1; have f0 := new_free B1.out 0; have f1 := new_free B1.out 1; have f2 := new_free B1.out 2; have c0 := bl_cell (a := ⟨w.heap.size, 0, none⟩) (v := .int .i64 0) B1.out (by simp); have c1 := bl_cell (a := ⟨w.heap.size, 1, none⟩) (v := .int .i64 0) B1.out (by simp); have c2 := bl_cell (a := ⟨w.heap.size, 2, none⟩) (v := .int .i64 0) B1.out (by simp); clear hb1))
    have TC := tri_cells (a' := .int .i64 a) (b' := .int .i64 b) (c' := .int .i64 c) c0 c1 c2
    have BT := tri_below (bl_then (bl_alloc (bl_refl w) _) B1.out) (Nat.le_refl _) (.int .i64 a) (.int .i64 b) (.int .i64 c)
    refine bodyPost_ret (v := .tuple #[.agg #[.int .i64 a, .int .i64 b, .int .i64 c], .nilIface]) (by simp only [tri] at TC; simp [results, Tryz.results87, go_sem, TC.1, TC.2.1, TC.2.2]) rfl ⟨a, b, c, .nil, rfl, by rw [HH.out]; rfl, BT⟩
  · have h0 : dayB n = false := by simpa using h
    have h' := h0
    unfold dayB at h'
    rw [h'] at ID
    have HI := Lib.hid ID
    have HH := Lib.hid h0
    clear ID h h' h0
    have B1 := bl_refl (w.alloc (.cells #[.int .i64 0, .int .i64 0, .int .i64 0] 162))
    have f0 := new_free B1 0
    have f1 := new_free B1 1
    have f2 := new_free B1 2
    have c0 := bl_cell (a := ⟨w.heap.size, 0, none⟩) (v := .int .i64 0) B1 (by simp)
    have c1 := bl_cell (a := ⟨w.heap.size, 1, none⟩) (v := .int .i64 0) B1 (by simp)
    have c2 := bl_cell (a := ⟨w.heap.size, 2, none⟩) (v := .int .i64 0) B1 (by simp)
    have TC := tri_cells (a' := .int .i64 0) (b' := .int .i64 0) (c' := .int .i64 0) c0 c1 c2
    have BT := tri_below (bl_then (bl_alloc (bl_refl w) _) B1) (Nat.le_refl _) (.int .i64 0) (.int .i64 0) (.int .i64 0)
    have HTC := Lib.hid TC
    have HBT := Lib.hid BT
    clear TC BT B1
    go_enter Tryz.func87, Tryz.ntmps87
    go_wp2_with (first | (go_at_call 118; with_reducible refine (HI.out _).mono ?_; rintro e w1 ⟨rfl, rfl⟩))
    refine bodyPost_ret (v := .tuple #[.agg #[.int .i64 0, .int .i64 0, .int .i64 0], (GErr.no 8).val]) (by have TC := HTC.out; simp only [tri] at TC; simp [results, Tryz.results87, go_sem, TC.1, TC.2.1, TC.2.2]; rfl) rfl ⟨0, 0, 0, .no 8, rfl, by rw [HH.out]; rfl, bl_alloc (bl_refl w) _⟩
end Go.Proofs.YtphabkaiheplpaaGreatDoor
