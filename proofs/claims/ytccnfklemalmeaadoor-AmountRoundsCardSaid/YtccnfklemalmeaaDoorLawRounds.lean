/- The law AmountRounds by its walk. -/
import Derived.Test.YtccnfklemalmeaaDoorLawMulDiv
set_option linter.unusedVariables false
set_option linter.unusedSimpArgs false
set_option maxRecDepth 100000
namespace Go.Proofs.YtccnfklemalmeaaDoor
open Go.RowKit Go.Proofs.YtccnfklemalmeaaDoor.Md

theorem GErr.nil_of {E : GErr} (h : E.ok) (hn : E.num = 0) : E = .nil := by
  rcases h with h | h
  · exact h
  · omega
/-- No error: the value and nil. -/
theorem retE_nil {x : Value} {w w' : World} {e : Ending} (h : RetE x 0 w e w') : e = .returned (.tuple #[x, .nilIface]) ∧ Below w.heap.size w w' := by
  obtain ⟨E, rfl, hok, hn, hb⟩ := h
  rw [GErr.nil_of hok hn]
  exact ⟨rfl, hb⟩
/-- A number of two words comes back. -/
def RetW (n : Int) (w : World) (e : Ending) (w' : World) : Prop := ∃ h l : Int, e = .returned (.agg #[.int .u64 h, .int .u64 l]) ∧ W2 h l n ∧ Below w.heap.size w w'
theorem times_any (a b : Int) (ha : 0 ≤ a ∧ a < 18446744073709551616) (hb : 0 ≤ b ∧ b < 18446744073709551616) (w : World) : Calls Tryd.prog 39 #[.int .u64 a, .int .u64 b] w (RetW (a * b) w) := by
  obtain ⟨h, l, e, w2⟩ := times_f a b ha hb
  exact (Go.Proofs.YtccnfklemalmeaaDoor.PAmountMulDiv.custodyref01_Times.calls a b h l w e).mono fun e w' ⟨he, hb⟩ => ⟨h, l, he, w2, hb⟩
theorem plus_any {a b c d m n : Int} (h1 : W2 a b m) (h2 : W2 c d n) (hs : m + n < 340282366920938463463374607431768211456) (w : World) : Calls Tryd.prog 40 #[.agg #[.int .u64 a, .int .u64 b], .agg #[.int .u64 c, .int .u64 d]] w (RetW (m + n) w) := by
  obtain ⟨h, l, e, w2⟩ := plus_g h1 h2 hs
  exact (Go.Proofs.YtccnfklemalmeaaDoor.PAmountMulDiv.custodyref01_Plus.calls a b c d h l w e).mono fun e w' ⟨he, hb⟩ => ⟨h, l, he, w2, hb⟩
theorem minus_any {a b c d m n : Int} (h1 : W2 a b m) (h2 : W2 c d n) (hs : n ≤ m) (w : World) : Calls Tryd.prog 42 #[.agg #[.int .u64 a, .int .u64 b], .agg #[.int .u64 c, .int .u64 d]] w (RetW (m - n) w) := by
  obtain ⟨h, l, e, w2⟩ := minus_g h1 h2 hs
  exact (Go.Proofs.YtccnfklemalmeaaDoor.PAmountMulDiv.custodyref01_Minus.calls a b c d h l w e).mono fun e w' ⟨he, hb⟩ => ⟨h, l, he, w2, hb⟩
theorem less_any {a b c d m n : Int} (h1 : W2 a b m) (h2 : W2 c d n) (r : Bool) (hr : decide (m < n) = r) (w : World) : Calls Tryd.prog 41 #[.agg #[.int .u64 a, .int .u64 b], .agg #[.int .u64 c, .int .u64 d]] w fun e w' => e = .returned (.bool r) ∧ Below w.heap.size w w' :=
  Go.Proofs.YtccnfklemalmeaaDoor.PAmountMulDiv.custodyref01_Less.calls a b c d r w (by rw [less_g h1 h2, hr])

theorem lifted_any (a b c m q : Int) (up : Bool) (ha : I64 a) (hb : I64 b) (hc : I64 c) (hm : I64 m) (hn : ¬ mdBad a b c m) (hq : q = a * b / c) (hq1 : q ≤ 9223372036854775807) (hu : decide (mdUp q (a * b % c) c m) = up) (w : World) (hg : ErrT w) :
    Calls Tryd.prog 43 #[.int .i64 a, .int .i64 b, .int .i64 c, .int .i64 m, .int .i64 q, .bool up] w fun e w' => e = .returned (.bool true) ∧ Below w.heap.size w w' := by
  have HG := Lib.hid hg
  clear hg
  have hmd := fun w => mulDiv_any a b c m ha hb hc hm w
  have hq0 : 0 ≤ q := by
    unfold mdBad at hn
    rw [hq]
    exact Int.ediv_nonneg (Int.mul_nonneg (by omega) (by omega)) (by omega)
  cases up with
  | false =>
    have hu' : ¬ mdUp q (a * b % c) c m := of_decide_eq_false hu
    have eQ : mdQ a b c m = q := by unfold mdQ; rw [← hq, if_neg hu']
    obtain ⟨e1, e2⟩ := md_good hn (by omega)
    rw [e1, e2, eQ] at hmd
    have q1 : (q == q) = true := beq_self_eq_true _
    clear hu hu' eQ e1 e2 hn hq
    go_enter Tryd.func43, Tryd.ntmps43
    go_wp2_with (go_at_call 38; refine (hmd _).mono ?_; intro e w1 hr; obtain ⟨rfl, hb1⟩ := retE_nil hr)
    go_ret
    exact ⟨rfl, hb1⟩
  | true =>
    have hu' : mdUp q (a * b % c) c m := of_decide_eq_true hu
    have eQ : mdQ a b c m = q + 1 := by unfold mdQ; rw [← hq, if_pos hu']
    by_cases ht : q = 9223372036854775807
    · obtain ⟨e1, e2⟩ := md_over hn (by omega)
      rw [e1, e2] at hmd
      subst ht
      clear hu hu' eQ e1 e2 hn hq
      go_enter Tryd.func43, Tryd.ntmps43
      go_wp2_with (first | (go_at_call 38; refine (hmd _).mono ?_; rintro e w1 ⟨E1, rfl, ok1, n1, hb1⟩; have N1 := Lib.hid n1; clear n1) | (go_at_call 15; refine (plain_eq E1 ok1 _ N1.out _ (HG.out.below hb1)).mono ?_; rintro e w3 ⟨rfl, hb3⟩))
      go_ret
      exact ⟨rfl, bl_then hb1 hb3⟩
    · obtain ⟨e1, e2⟩ := md_good hn (by omega)
      rw [e1, e2, eQ] at hmd
      have q1 : (q + 1 == q + 1) = true := beq_self_eq_true _
      have q2 : (q == 9223372036854775807) = false := by simpa using ht
      clear hu hu' eQ e1 e2 hn hq
      go_enter Tryd.func43, Tryd.ntmps43
      go_wp2_with (go_at_call 38; refine (hmd _).mono ?_; intro e w1 hr; obtain ⟨rfl, hb1⟩ := retE_nil hr)
      go_ret
      exact ⟨rfl, hb1⟩

theorem mdQ_down (a b c : Int) : mdQ a b c 0 = a * b / c := by
  unfold mdQ
  exact if_neg (by unfold mdUp; omega)
theorem bcell {W w1 : World} (hb : Below W.heap.size W w1) : (∀ b o, b < W.heap.size → w1.cell? ⟨b, o, none⟩ = W.cell? ⟨b, o, none⟩) ∧ (∀ b o, b < W.heap.size → w1.frozen? ⟨b, o, none⟩ = W.frozen? ⟨b, o, none⟩) :=
  ⟨fun b o h => hb.cell (p := ⟨b, o, none⟩) h, fun b o h => hb.frozen (p := ⟨b, o, none⟩) h⟩
theorem al_cell {w : World} {a : Addr} {v : Value} (h : w.cell? a = some v) {o : Obj} : (w.alloc o).cell? a = some v := by
  rw [World.cell?_alloc_lt w o a (World.block_lt_of_cell? w a h)]
  exact h
theorem new_free {w w1 : World} {c : Array Value} {t : TypeId} (hb : Below (w.alloc (.cells c t)).heap.size (w.alloc (.cells c t)) w1) (j : Nat) : w1.frozen? ⟨w.heap.size, j, none⟩ = false := by
  rw [hb.frozen (p := ⟨w.heap.size, j, none⟩) (by simp)]
  simp
theorem new_size {w w1 : World} {o : Obj} (hb : Below (w.alloc o).heap.size (w.alloc o) w1) : w.heap.size < w1.heap.size := by
  have := hb.size
  simp at this
  omega
theorem bl_set {w W : World} (h : Below w.heap.size w W) {p : Addr} (hp : w.heap.size ≤ p.block) (v : Value) : Below w.heap.size w (W.setCell p v) := h.setCell hp v
theorem st_cell {w : World} {a b o p : Nat} {v u : Value} (h : w.cell? ⟨a, o, none⟩ = some v) (hne : a < b) : (w.setCell ⟨b, p, none⟩ u).cell? ⟨a, o, none⟩ = some v := by
  rw [World.cell?_setCell_other w _ _ u (fun e => by injection e; omega)]
  exact h
theorem w2_of {h l n r : Int} (w : W2 h l n) (e : n = r) (h0 : 0 ≤ r) (h1 : r < 18446744073709551616) : h = 0 ∧ l = r := by obtain ⟨a, b, c, d, f⟩ := w; omega
theorem rounds_bad (a b c : Int) (ha : I64 a) (hb : I64 b) (hc : I64 c) (hn : a < 0 ∨ b < 0 ∨ c ≤ 0) (w : World) (hg : ErrT w) :
    Calls Tryd.prog 8 #[.int .i64 a, .int .i64 b, .int .i64 c] w fun e w' => e = .returned (.bool true) ∧ Below w.heap.size w w' := by
  have HG := Lib.hid hg
  clear hg
  have hbad : mdBad a b c 0 := by unfold mdBad; omega
  have hmd := fun w => mulDiv_any a b c 0 ha hb hc (by unfold I64; omega) w
  obtain ⟨e1, e2⟩ := md_bad hbad
  rw [e1, e2] at hmd
  clear hbad e1 e2
  have hn' : a < 0 ∨ (¬ a < 0 ∧ b < 0) ∨ (¬ a < 0 ∧ ¬ b < 0 ∧ c ≤ 0) := by omega
  clear hn
  rcases hn' with h | ⟨h, h'⟩ | ⟨h, h', h''⟩
  all_goals
    go_enter Tryd.func8, Tryd.ntmps8
    go_wp2_with (first | (go_at_call 38; refine (hmd _).mono ?_; rintro e w1 ⟨E1, rfl, ok1, n1, hb1⟩; have N1 := Lib.hid n1; clear n1) | (go_at_call 15; refine (plain_eq E1 ok1 _ N1.out _ (HG.out.below hb1)).mono ?_; rintro e w3 ⟨rfl, hb3⟩))
    go_ret
    exact ⟨rfl, bl_then hb1 hb3⟩
theorem w2_low {c : Int} (h0 : 0 ≤ c) (h1 : c < 18446744073709551616) : W2 0 c c := ⟨by omega, by omega, h0, h1, by omega⟩
theorem rounds_over (a b c : Int) (ha : I64 a) (hb : I64 b) (hc : I64 c) (h1 : ¬ a < 0) (h2 : ¬ b < 0) (h3 : ¬ c ≤ 0) (ho : 9223372036854775807 < a * b / c) (w : World) (hg : ErrT w) :
    Calls Tryd.prog 8 #[.int .i64 a, .int .i64 b, .int .i64 c] w fun e w' => e = .returned (.bool true) ∧ Below w.heap.size w w' := by
  have HG := Lib.hid hg
  clear hg
  have hn : ¬ mdBad a b c 0 := by unfold mdBad; omega
  have hmd := fun w => mulDiv_any a b c 0 ha hb hc (by unfold I64; omega) w
  obtain ⟨e1, e2⟩ := md_over hn (by rw [mdQ_down]; exact ho)
  rw [e1, e2] at hmd
  clear e1 e2 hn
  unfold I64 at ha hb hc
  have ht := fun w => times_any a b ⟨by omega, by omega⟩ ⟨by omega, by omega⟩ w
  have hm := fun w => times_any 9223372036854775807 c ⟨by omega, by omega⟩ ⟨by omega, by omega⟩ w
  have hge : 9223372036854775807 * c + c ≤ a * b := by
    have := (Int.le_ediv_iff_mul_le (show 0 < c by omega)).1 (show 9223372036854775808 ≤ a * b / c by omega)
    omega
  have hLs := decide_eq_false (show ¬ a * b < 9223372036854775807 * c + c by omega)
  have HL := Lib.hid hLs
  have hcb : 9223372036854775807 * c + c < 340282366920938463463374607431768211456 := by omega
  have HC := Lib.hid hcb
  have wc := w2_low (c := c) (by omega) (by omega)
  clear ho hge hLs hcb
  go_enter Tryd.func8, Tryd.ntmps8
  go_wp2_with (first | (go_at_call 39; (with_reducible refine (ht _).mono ?_); rintro e w1 ⟨th, tl, rfl, wt, hb1⟩) | (go_at_call 38; refine (hmd _).mono ?_; rintro e w2 ⟨E1, rfl, ok1, n1, hb2⟩; have N1 := Lib.hid n1; clear n1; have B2 := bl_then (bl_alloc hb1 _) hb2; have a0 := bl_cell (a := ⟨w1.heap.size, 0, none⟩) (v := .int .u64 th) hb2 (by simp); have a1 := bl_cell (a := ⟨w1.heap.size, 1, none⟩) (v := .int .u64 tl) hb2 (by simp); have z2 : w1.heap.size < w2.heap.size := by have := hb2.size; simp at this; omega) | (go_at_call 39; refine (hm _).mono ?_; rintro e w3 ⟨mh, ml, rfl, wm, hb3⟩; have B3 := bl_then B2 hb3; have a2 := bl_cell hb3 a0; have a3 := bl_cell hb3 a1; clear a0 a1; have z3 : w1.heap.size < w3.heap.size := by have := hb3.size; omega) | (go_at_call 40; refine (plus_any wm wc HC.out _).mono ?_; rintro e w4 ⟨ph, pl, rfl, wp, hb4⟩; have B4 := bl_then (bl_alloc B3 _) hb4; have a4 := bl_cell hb4 (al_cell a2); have a5 := bl_cell hb4 (al_cell a3); clear a2 a3; have t0 := bl_cell (a := ⟨w3.heap.size, 0, none⟩) (v := .int .u64 mh) hb4 (by simp); have t1 := bl_cell (a := ⟨w3.heap.size, 1, none⟩) (v := .int .u64 ml) hb4 (by simp); have t2 := new_free hb4 0; have t3 := new_free hb4 1; have z4 := new_size hb4) | (go_at_call 41; refine (less_any wt wp false HL.out _).mono ?_; rintro e w5 ⟨rfl, hb5⟩; have B5 := bl_then (bl_set (bl_set B4 (p := ⟨w3.heap.size, 0, none⟩) B3.size _) (p := ⟨w3.heap.size, 1, none⟩) B3.size _) hb5))
  have HB := HG.out.below B5
  have HP := plain_eq E1 ok1 _ N1.out _ HB
  refine HP.mono ?_
  clear HP HB
  rintro e w6 ⟨rfl, hb6⟩
  clear HL HC wt wm wp wc t0 t1 a4 a5
  clear HG hmd ht hm
  go_wp2
  go_ret
  exact ⟨rfl, bl_then B5 hb6⟩
theorem rounds_good (a b c : Int) (ha : I64 a) (hb : I64 b) (hc : I64 c) (h1 : ¬ a < 0) (h2 : ¬ b < 0) (h3 : ¬ c ≤ 0) (ho : ¬ 9223372036854775807 < a * b / c) (w : World) (hg : ErrT w) :
    Calls Tryd.prog 8 #[.int .i64 a, .int .i64 b, .int .i64 c] w fun e w' => e = .returned (.bool true) ∧ Below w.heap.size w w' := by
  have HG := Lib.hid hg
  clear hg
  have hn : ∀ m, 0 ≤ m → m ≤ 3 → ¬ mdBad a b c m := fun m _ _ => by unfold mdBad; omega
  have hn2 : ¬ mdBad b a c 0 := by unfold mdBad; omega
  have hmd := fun w => mulDiv_any a b c 0 ha hb hc (by unfold I64; omega) w
  obtain ⟨e1, e2⟩ := md_good (hn 0 (by omega) (by omega)) (by rw [mdQ_down]; exact ho)
  rw [e1, e2, mdQ_down] at hmd
  clear e1 e2
  have hlift : ∀ m up, 0 ≤ m → m ≤ 3 → decide (mdUp (a * b / c) (a * b % c) c m) = up → ∀ w, ErrT w → Calls Tryd.prog 43 #[.int .i64 a, .int .i64 b, .int .i64 c, .int .i64 m, .int .i64 (a * b / c), .bool up] w fun e w' => e = .returned (.bool true) ∧ Below w.heap.size w w' :=
    fun m up m0 m3 hu w hg => lifted_any a b c m _ up ha hb hc (by unfold I64; omega) (hn m m0 m3) rfl (by omega) hu w hg
  have hlast : ∀ w, ErrT w → Calls Tryd.prog 43 #[.int .i64 b, .int .i64 a, .int .i64 c, .int .i64 0, .int .i64 (a * b / c), .bool false] w fun e w' => e = .returned (.bool true) ∧ Below w.heap.size w w' :=
    fun w hg => lifted_any b a c 0 _ false hb ha hc (by unfold I64; omega) hn2 (by rw [Int.mul_comm]) (by omega) (decide_eq_false (by unfold mdUp; omega)) w hg
  clear hn hn2
  unfold I64 at ha hb hc
  have hab0 : 0 ≤ a * b := Int.mul_nonneg (by omega) (by omega)
  have hq0 : 0 ≤ a * b / c := Int.ediv_nonneg hab0 (by omega)
  have hr0 := Int.emod_nonneg (a * b) (show c ≠ 0 by omega)
  have hr1 := Int.emod_lt_of_pos (a * b) (show 0 < c by omega)
  have hdm := Int.mul_ediv_add_emod (a * b) c
  rw [Int.mul_comm c] at hdm
  have ht := fun w => times_any a b ⟨by omega, by omega⟩ ⟨by omega, by omega⟩ w
  have hm := fun w => times_any 9223372036854775807 c ⟨by omega, by omega⟩ ⟨by omega, by omega⟩ w
  have hl := fun w => times_any (a * b / c) c ⟨hq0, by omega⟩ ⟨by omega, by omega⟩ w
  have hqc : a * b / c * c ≤ 9223372036854775807 * c := Int.mul_le_mul_of_nonneg_right (by omega) (by omega)
  have hLs := decide_eq_true (show a * b < 9223372036854775807 * c + c by omega)
  have HL := Lib.hid hLs
  have hL2 := decide_eq_false (show ¬ a * b < a * b / c * c by omega)
  have HL2 := Lib.hid hL2
  have hcb : 9223372036854775807 * c + c < 340282366920938463463374607431768211456 := by omega
  have HC := Lib.hid hcb
  have wc := w2_low (c := c) (by omega) (by omega)
  have hmle : a * b / c * c ≤ a * b := by omega
  have hsub : a * b - a * b / c * c = a * b % c := by omega
  have hr2 : a * b % c < 18446744073709551616 := by omega
  have HS := Lib.hid hsub
  have HM := Lib.hid hmle
  have HR := Lib.hid hr2
  have hwr : IntKind.u64.wrap (c - a * b % c) = c - a * b % c := wrap_in (by omega) (by omega)
  have EW := Lib.hid hwr
  clear hwr hLs hcb hL2 hmle hsub hqc hab0 hdm hr2
  have hq1 : a * b / c ≤ 9223372036854775807 := by omega
  clear ho
  have HT := Lib.hid hlift
  have HLst := Lib.hid hlast
  clear hlift hlast
  go_enter Tryd.func8, Tryd.ntmps8
  go_wp2_with (first | (go_at_call 39; (with_reducible refine (ht _).mono ?_); rintro e w1 ⟨th, tl, rfl, wt, hb1⟩) | (go_at_call 38; refine (hmd _).mono ?_; intro e w2 hr; obtain ⟨rfl, hb2⟩ := retE_nil hr; clear hr; have B2 := bl_then (bl_alloc hb1 _) hb2; have a0 := bl_cell (a := ⟨w1.heap.size, 0, none⟩) (v := .int .u64 th) hb2 (by simp); have a1 := bl_cell (a := ⟨w1.heap.size, 1, none⟩) (v := .int .u64 tl) hb2 (by simp); have z2 : w1.heap.size < w2.heap.size := by have := hb2.size; simp at this; omega) | (go_at_call 39; refine (hm _).mono ?_; rintro e w3 ⟨mh, ml, rfl, wm, hb3⟩; have B3 := bl_then B2 hb3; have a2 := bl_cell hb3 a0; have a3 := bl_cell hb3 a1; clear a0 a1; have z3 : w1.heap.size < w3.heap.size := by have := hb3.size; omega) | (go_at_call 40; refine (plus_any wm wc HC.out _).mono ?_; rintro e w4 ⟨ph, pl, rfl, wp, hb4⟩; have B4 := bl_then (bl_alloc B3 _) hb4; have a4 := bl_cell hb4 (al_cell a2); have a5 := bl_cell hb4 (al_cell a3); clear a2 a3; have t0 := bl_cell (a := ⟨w3.heap.size, 0, none⟩) (v := .int .u64 mh) hb4 (by simp); have t1 := bl_cell (a := ⟨w3.heap.size, 1, none⟩) (v := .int .u64 ml) hb4 (by simp); have t2 := new_free hb4 0; have t3 := new_free hb4 1; have z4 := new_size hb4) | (go_at_call 41; refine (less_any wt wp true HL.out _).mono ?_; rintro e w5 ⟨rfl, hb5⟩;have B5 := bl_then (bl_set (bl_set B4 (p := ⟨w3.heap.size, 0, none⟩) B3.size _) (p := ⟨w3.heap.size, 1, none⟩) B3.size _) hb5; have a6 := bl_cell hb5 (st_cell (st_cell a4 z3) z3); have a7 := bl_cell hb5 (st_cell (st_cell a5 z3) z3); have z5 : w1.heap.size < w5.heap.size := Nat.lt_of_lt_of_le (Nat.lt_trans z3 z4) (Nat.le_trans (by simp) hb5.size); clear a4 a5 t0 t1 t2 t3 wp HL HC wm wc hb5 hb4 hb3 hb2 hb1 B4 B3 B2 z3 z4 z2 ht hm hmd) | (go_at_call 39; (with_reducible refine (hl _).mono ?_); rintro e w6 ⟨lh, ll, rfl, wl, hb6⟩; have B6 := bl_then B5 hb6; have a8 := bl_cell hb6 a6; have a9 := bl_cell hb6 a7; have z6 : w1.heap.size < w6.heap.size := Nat.lt_of_lt_of_le z5 hb6.size; clear a6 a7 z5 hb6 B5 hl) | (go_at_call 41; refine (less_any wt wl false HL2.out _).mono ?_; rintro e w7 ⟨rfl, hb7⟩; have B7 := bl_then (bl_alloc B6 _) hb7; have d0 := bl_cell hb7 (al_cell a8); have d1 := bl_cell hb7 (al_cell a9); have d2 := bl_cell (a := ⟨w6.heap.size, 0, none⟩) (v := .int .u64 lh) hb7 (by simp); have d3 := bl_cell (a := ⟨w6.heap.size, 1, none⟩) (v := .int .u64 ll) hb7 (by simp); clear a8 a9 HL2 B6 hb7) | (go_at_call 42; refine (minus_any wt wl HM.out _).mono ?_; rintro e w8 ⟨rh, rl, rfl, wr, hb8⟩; have B8 := bl_then B7 hb8; obtain ⟨r1, r2⟩ := w2_of wr HS.out hr0 HR.out; subst r1; subst r2; clear wt wl HM HS HR wr hr0 hb8 B7 d0 d1 d2 d3) | (go_at_call 43; refine (HT.out 1 _ (by omega) (by omega) ?_ _ (HG.out.below (bl_alloc B8 _))).mono ?_; (case refine_1 => exact decide_eq_decide.2 (by unfold mdUp; omega)); rintro e w9 ⟨rfl, hb9⟩; have B9 := bl_then (bl_alloc B8 _) hb9; clear hb9 B8) | (go_at_call 43; refine (HT.out 2 _ (by omega) (by omega) ?_ _ (HG.out.below B9)).mono ?_; (case refine_1 => (have e1 := EW.out; first | exact decide_eq_true (by unfold mdUp; omega) | exact decide_eq_false (by unfold mdUp; omega))); rintro e w10 ⟨rfl, hb10⟩; have B10 := bl_then B9 hb10; clear hb10 B9) | (go_at_call 43; refine (HT.out 3 _ (by omega) (by omega) ?_ _ (HG.out.below B10)).mono ?_; (case refine_1 => (have e1 := EW.out; first | exact decide_eq_true (by unfold mdUp; omega) | exact decide_eq_false (by unfold mdUp; omega) | exact decide_eq_decide.2 (by unfold mdUp; omega))); rintro e w11 ⟨rfl, hb11⟩; have B11 := bl_then B10 hb11; clear hb11 B10) | (go_at_call 43; refine (HLst.out _ (HG.out.below B11)).mono ?_; rintro e w12 ⟨rfl, hb12⟩; have B12 := bl_then B11 hb12; clear hb12 B11))
  all_goals go_ret
  all_goals exact ⟨rfl, B12⟩
theorem rowlaw_AmountRounds (w : World) (hg : ErrT w) (a b c : Int) (ha : I64 a) (hb : I64 b) (hc : I64 c) :
    Calls Tryd.prog 8 #[.int .i64 a, .int .i64 b, .int .i64 c] w fun e w' => e = .returned (.bool true) ∧ Below w.heap.size w w' := by
  by_cases hn : a < 0 ∨ b < 0 ∨ c ≤ 0
  · exact rounds_bad a b c ha hb hc hn w hg
  · have h1 : ¬ a < 0 := fun h => hn (.inl h)
    have h2 : ¬ b < 0 := fun h => hn (.inr (.inl h))
    have h3 : ¬ c ≤ 0 := fun h => hn (.inr (.inr h))
    by_cases ho : 9223372036854775807 < a * b / c
    · exact rounds_over a b c ha hb hc h1 h2 h3 ho w hg
    · exact rounds_good a b c ha hb hc h1 h2 h3 ho w hg
end Go.Proofs.YtccnfklemalmeaaDoor
