/- The thirteen checks of a notice, by contracts. -/
import Derived.Test.YtblfobepaipebaaGreatDoorCodeS
import Derived.Test.YtblfobepaipebaaGreatDoorCalD
set_option linter.unusedVariables false
set_option linter.unusedSimpArgs false
set_option maxRecDepth 100000
namespace Go.Proofs.YtblfobepaipebaaGreatDoor
open Go.RowKit Go.Shelf

def empS (s : ByteArray) : Bool := s.toList.isEmpty
/-- What is wrong with a notice, by the checks in their order. -/
def wrong0 (x : Nt) : Bool := !refOK x.ref
def wrong1 (x : Nt) : Bool := if x.cancel then !refOK x.prev else !empS x.prev
def wrong2 (x : Nt) : Bool := !dayB x.trade || !dayB x.settle || decide (x.settle < x.trade)
def wrong3 (x : Nt) : Bool := !isinOK (codeB x.code)
def wrong4 (x : Nt) : Bool := decide (x.qty < 1)
def wrong5 (x : Nt) : Bool := !accOK x.account
def wrong6 (x : Nt) : Bool := !bicOK x.agent
def wrong7 (x : Nt) : Bool := !accOK x.other
def wrong8 (x : Nt) : Bool := x.pay && decide (x.amount < 1)
def wrong9 (x : Nt) : Bool := x.pay && !hasOK x.currency formC
def wrong10 (x : Nt) : Bool := !x.pay && (x.amount != 0 || !empS x.currency)
def wrong11 (x : Nt) : Bool := decide (x.priority < 0) || decide (9999 < x.priority)
def wrong12 (x : Nt) : Bool := decide (16 < (x.ln : Int))
theorem note_at (x : Nt) : (noteC x)[0]? = some (.string x.ref) ∧ (noteC x)[1]? = some (.string x.prev) ∧ (noteC x)[2]? = some (.bool x.cancel) ∧ (noteC x)[4]? = some (.bool x.pay) ∧ (noteC x)[5]? = some (.int .i64 x.trade) ∧ (noteC x)[6]? = some (.int .i64 x.settle) ∧
    (noteC x)[19]? = some (.int .i64 x.qty) ∧ (noteC x)[20]? = some (.string x.account) ∧ (noteC x)[21]? = some (.string x.agent) ∧ (noteC x)[22]? = some (.string x.other) ∧ (noteC x)[23]? = some (.int .i64 x.amount) ∧ (noteC x)[24]? = some (.string x.currency) ∧ (noteC x)[25]? = some (.int .i64 x.priority) ∧ (noteC x)[26]? = some (.slice x.la x.ln x.lc) :=
  ⟨rfl, rfl, rfl, rfl, rfl, rfl, rfl, rfl, rfl, rfl, rfl, rfl, rfl, rfl⟩
theorem refused_any (E : GErr) (w : World) : Calls Tryz.prog 73 #[E.val] w fun e w' => e = .returned (.bool (!E.isNil)) ∧ w = w' := by
  have ne := fun w => ne_of (E := E) rfl w
  have gn := fun x c w => guard_errN E x c w
  go_enter Tryz.func73, Tryz.ntmps73
  go_wp2
  go_ret
  exact ⟨rfl, rfl⟩
theorem refIs_any (n : Int) (w : World) : Calls Tryz.prog 89 #[.int .i64 n] w fun e w' => e = .returned (.bool (dayB n)) ∧ w = w' := by
  go_enter Tryz.func89, Tryz.ntmps89
  go_wp2
  all_goals go_ret
  all_goals exact ⟨ret_b (by first | (simp [dayB]; omega) | (symm; simp [dayB]; omega) | (rw [Bool.eq_iff_iff]; simp [dayB]; omega)), rfl⟩
theorem check1_any (x : Nt) (hx : x.wf) (w : World) (hp : PowT w) :
    Calls Tryz.prog 67 #[.agg (noteC x)] w fun e w' => e = .returned (.bool (wrong0 x)) ∧ Below w.heap.size w w' := by
  obtain ⟨a0, a1, a2, a4, a5, a6, a19, a20, a21, a22, a23, a24, a25, a26⟩ := note_at x
  have HR := Lib.hid (fun w => reference_any x.ref hx.ref w)
  generalize hNX : noteC x = NX at a0 a1 a2 a4 a5 a6 a19 a20 a21 a22 a23 a24 a25 a26 ⊢
  clear hNX
  go_enter Tryz.func67, Tryz.ntmps67
  go_wp2_with (go_at_call 32; with_reducible refine (HR.out _).mono ?_; rintro e w1 ⟨rfl, hb⟩)
  go_ret
  exact ⟨rfl, bl_then (bl_alloc (bl_refl w) _) hb⟩
theorem check2_any (x : Nt) (hx : x.wf) (w : World) (hp : PowT w) :
    Calls Tryz.prog 68 #[.agg (noteC x)] w fun e w' => e = .returned (.bool (wrong1 x)) ∧ Below w.heap.size w w' := by
  obtain ⟨a0, a1, a2, a4, a5, a6, a19, a20, a21, a22, a23, a24, a25, a26⟩ := note_at x
  have HR := Lib.hid (fun w => reference_any x.prev hx.prev w)
  have HW : Hid (wrong1 x = if x.cancel then !refOK x.prev else !empS x.prev) := Lib.hid rfl
  unfold empS at HW
  generalize hNX : noteC x = NX at a0 a1 a2 a4 a5 a6 a19 a20 a21 a22 a23 a24 a25 a26 ⊢
  clear hNX
  cases hc : x.cancel with
  | true =>
    rw [hc] at a2 HW
    clear hc
    cases hr : refOK x.prev with
    | true =>
      rw [hr] at HR HW
      clear hr
      go_enter Tryz.func68, Tryz.ntmps68
      go_wp2_with (go_at_call 32; with_reducible refine (HR.out _).mono ?_; rintro e w1 ⟨rfl, hb⟩; obtain ⟨kc1, kf1⟩ := bcell hb)
      go_ret
      exact ⟨by rw [HW.out]; rfl, bl_then (bl_alloc (bl_refl w) _) hb⟩
    | false =>
      rw [hr] at HR HW
      clear hr
      go_enter Tryz.func68, Tryz.ntmps68
      go_wp2_with (go_at_call 32; with_reducible refine (HR.out _).mono ?_; rintro e w1 ⟨rfl, hb⟩)
      go_ret
      exact ⟨by rw [HW.out]; rfl, bl_then (bl_alloc (bl_refl w) _) hb⟩
  | false =>
    rw [hc] at a2 HW
    clear hc HR
    go_enter Tryz.func68, Tryz.ntmps68
    go_wp2
    go_ret
    exact ⟨by rw [HW.out]; rfl, bl_alloc (bl_refl w) _⟩
theorem check5_any (x : Nt) (hx : x.wf) (w : World) (hp : PowT w) :
    Calls Tryz.prog 74 #[.agg (noteC x)] w fun e w' => e = .returned (.bool (wrong4 x)) ∧ Below w.heap.size w w' := by
  obtain ⟨a0, a1, a2, a4, a5, a6, a19, a20, a21, a22, a23, a24, a25, a26⟩ := note_at x
  generalize hNX : noteC x = NX at a0 a1 a2 a4 a5 a6 a19 a20 a21 a22 a23 a24 a25 a26 ⊢
  clear hNX
  go_enter Tryz.func74, Tryz.ntmps74
  go_wp2
  go_ret
  exact ⟨rfl, bl_alloc (bl_refl w) _⟩
theorem check6_any (x : Nt) (hx : x.wf) (w : World) (hp : PowT w) :
    Calls Tryz.prog 75 #[.agg (noteC x)] w fun e w' => e = .returned (.bool (wrong5 x)) ∧ Below w.heap.size w w' := by
  obtain ⟨a0, a1, a2, a4, a5, a6, a19, a20, a21, a22, a23, a24, a25, a26⟩ := note_at x
  have HR := Lib.hid (fun w hp => account_any x.account hx.account w hp)
  have HP := Lib.hid (hp.below (bl_alloc (bl_refl w) (.cells (noteC x) 26)))
  have HU := Lib.hid refused_any
  generalize hNX : noteC x = NX at HP a0 a1 a2 a4 a5 a6 a19 a20 a21 a22 a23 a24 a25 a26 ⊢
  clear hNX
  go_enter Tryz.func75, Tryz.ntmps75
  go_wp2_with (first | (go_at_call 76; with_reducible refine (HR.out _ HP.out).mono ?_; rintro e w1 ⟨E, rfl, hE, hEok, hb⟩) | (go_at_call 73; with_reducible refine (HU.out _ _).mono ?_; rintro e w2 ⟨rfl, rfl⟩))
  go_ret
  exact ⟨rfl, bl_then (bl_alloc (bl_refl w) _) hb⟩
theorem check8_any (x : Nt) (hx : x.wf) (w : World) (hp : PowT w) :
    Calls Tryz.prog 79 #[.agg (noteC x)] w fun e w' => e = .returned (.bool (wrong7 x)) ∧ Below w.heap.size w w' := by
  obtain ⟨a0, a1, a2, a4, a5, a6, a19, a20, a21, a22, a23, a24, a25, a26⟩ := note_at x
  have HR := Lib.hid (fun w hp => account_any x.other hx.other w hp)
  have HP := Lib.hid (hp.below (bl_alloc (bl_refl w) (.cells (noteC x) 26)))
  have HU := Lib.hid refused_any
  generalize hNX : noteC x = NX at HP a0 a1 a2 a4 a5 a6 a19 a20 a21 a22 a23 a24 a25 a26 ⊢
  clear hNX
  go_enter Tryz.func79, Tryz.ntmps79
  go_wp2_with (first | (go_at_call 76; with_reducible refine (HR.out _ HP.out).mono ?_; rintro e w1 ⟨E, rfl, hE, hEok, hb⟩) | (go_at_call 73; with_reducible refine (HU.out _ _).mono ?_; rintro e w2 ⟨rfl, rfl⟩))
  go_ret
  exact ⟨rfl, bl_then (bl_alloc (bl_refl w) _) hb⟩
theorem check9_any (x : Nt) (hx : x.wf) (w : World) (hp : PowT w) :
    Calls Tryz.prog 80 #[.agg (noteC x)] w fun e w' => e = .returned (.bool (wrong8 x)) ∧ Below w.heap.size w w' := by
  obtain ⟨a0, a1, a2, a4, a5, a6, a19, a20, a21, a22, a23, a24, a25, a26⟩ := note_at x
  have HW : Hid (wrong8 x = (x.pay && decide (x.amount < 1))) := Lib.hid rfl
  generalize hNX : noteC x = NX at a0 a1 a2 a4 a5 a6 a19 a20 a21 a22 a23 a24 a25 a26 ⊢
  clear hNX
  cases hc : x.pay <;> rw [hc] at a4 HW <;> clear hc
  · go_enter Tryz.func80, Tryz.ntmps80
    go_wp2
    go_ret
    exact ⟨by rw [HW.out]; rfl, bl_alloc (bl_refl w) _⟩
  · go_enter Tryz.func80, Tryz.ntmps80
    go_wp2
    go_ret
    exact ⟨by rw [HW.out]; rfl, bl_alloc (bl_refl w) _⟩
theorem check10_any (x : Nt) (hx : x.wf) (w : World) (hp : PowT w) :
    Calls Tryz.prog 81 #[.agg (noteC x)] w fun e w' => e = .returned (.bool (wrong9 x)) ∧ Below w.heap.size w w' := by
  obtain ⟨a0, a1, a2, a4, a5, a6, a19, a20, a21, a22, a23, a24, a25, a26⟩ := note_at x
  have HW : Hid (wrong9 x = (x.pay && !hasOK x.currency formC)) := Lib.hid rfl
  have HR : Hid (∀ w, PowT w → Calls Tryz.prog 82 #[.string x.currency] w fun e w' => ∃ E : GErr, e = .returned E.val ∧ E.isNil = hasOK x.currency formC ∧ E.ok ∧ Below w.heap.size w w') := Lib.hid (fun w hp => currency_any x.currency hx.currency w hp)
  have HP := Lib.hid (hp.below (bl_alloc (bl_refl w) (.cells (noteC x) 26)))
  have HU := Lib.hid refused_any
  generalize hNX : noteC x = NX at HP a0 a1 a2 a4 a5 a6 a19 a20 a21 a22 a23 a24 a25 a26 ⊢
  clear hNX
  cases hc : x.pay <;> rw [hc] at a4 HW <;> clear hc
  · go_enter Tryz.func81, Tryz.ntmps81
    go_wp2
    go_ret
    exact ⟨by rw [HW.out]; rfl, bl_alloc (bl_refl w) _⟩
  · go_enter Tryz.func81, Tryz.ntmps81
    go_wp2_with (first | (go_at_call 82; with_reducible refine (HR.out _ HP.out).mono ?_; rintro e w1 ⟨E, rfl, hE, hEok, hb⟩) | (go_at_call 73; with_reducible refine (HU.out _ _).mono ?_; rintro e w2 ⟨rfl, rfl⟩))
    go_ret
    exact ⟨by rw [HW.out, ← hE]; rfl, bl_then (bl_alloc (bl_refl w) _) hb⟩
theorem check11_any (x : Nt) (hx : x.wf) (w : World) (hp : PowT w) :
    Calls Tryz.prog 83 #[.agg (noteC x)] w fun e w' => e = .returned (.bool (wrong10 x)) ∧ Below w.heap.size w w' := by
  obtain ⟨a0, a1, a2, a4, a5, a6, a19, a20, a21, a22, a23, a24, a25, a26⟩ := note_at x
  have HW : Hid (wrong10 x = (!x.pay && (x.amount != 0 || !empS x.currency))) := Lib.hid rfl
  unfold empS at HW
  generalize hNX : noteC x = NX at a0 a1 a2 a4 a5 a6 a19 a20 a21 a22 a23 a24 a25 a26 ⊢
  clear hNX
  cases hc : x.pay <;> rw [hc] at a4 HW <;> clear hc
  · cases hm : (x.amount != 0) <;> rw [hm] at HW
    · go_enter Tryz.func83, Tryz.ntmps83
      go_wp2
      go_ret
      exact ⟨by rw [HW.out]; rfl, bl_alloc (bl_refl w) _⟩
    · go_enter Tryz.func83, Tryz.ntmps83
      go_wp2
      go_ret
      exact ⟨by rw [HW.out]; rfl, bl_alloc (bl_refl w) _⟩
  · go_enter Tryz.func83, Tryz.ntmps83
    go_wp2
    go_ret
    exact ⟨by rw [HW.out]; rfl, bl_alloc (bl_refl w) _⟩
theorem check12_any (x : Nt) (hx : x.wf) (w : World) (hp : PowT w) :
    Calls Tryz.prog 84 #[.agg (noteC x)] w fun e w' => e = .returned (.bool (wrong11 x)) ∧ Below w.heap.size w w' := by
  obtain ⟨a0, a1, a2, a4, a5, a6, a19, a20, a21, a22, a23, a24, a25, a26⟩ := note_at x
  have HW : Hid (wrong11 x = (decide (x.priority < 0) || decide (9999 < x.priority))) := Lib.hid rfl
  generalize hNX : noteC x = NX at a0 a1 a2 a4 a5 a6 a19 a20 a21 a22 a23 a24 a25 a26 ⊢
  clear hNX
  by_cases h : x.priority < 0
  · go_enter Tryz.func84, Tryz.ntmps84
    go_wp2
    go_ret
    exact ⟨by rw [HW.out]; simp [h, go_sem], bl_alloc (bl_refl w) _⟩
  · go_enter Tryz.func84, Tryz.ntmps84
    go_wp2
    go_ret
    exact ⟨by rw [HW.out]; simp [go_sem]; omega, bl_alloc (bl_refl w) _⟩
theorem check13_any (x : Nt) (hx : x.wf) (w : World) (hp : PowT w) :
    Calls Tryz.prog 85 #[.agg (noteC x)] w fun e w' => e = .returned (.bool (wrong12 x)) ∧ Below w.heap.size w w' := by
  obtain ⟨a0, a1, a2, a4, a5, a6, a19, a20, a21, a22, a23, a24, a25, a26⟩ := note_at x
  generalize hNX : noteC x = NX at a0 a1 a2 a4 a5 a6 a19 a20 a21 a22 a23 a24 a25 a26 ⊢
  clear hNX
  go_enter Tryz.func85, Tryz.ntmps85
  go_wp2
  go_ret
  exact ⟨rfl, bl_alloc (bl_refl w) _⟩
theorem check3_any (x : Nt) (hx : x.wf) (w : World) (hp : PowT w) :
    Calls Tryz.prog 69 #[.agg (noteC x)] w fun e w' => e = .returned (.bool (wrong2 x)) ∧ Below w.heap.size w w' := by
  obtain ⟨a0, a1, a2, a4, a5, a6, a19, a20, a21, a22, a23, a24, a25, a26⟩ := note_at x
  have H1 := Lib.hid (fun w => calOf_any x.trade w)
  have H2 := Lib.hid (fun w => calOf_any x.settle w)
  have HW : Hid (wrong2 x = (!dayB x.trade || !dayB x.settle || decide (x.settle < x.trade))) := Lib.hid rfl
  generalize hNX : noteC x = NX at a0 a1 a2 a4 a5 a6 a19 a20 a21 a22 a23 a24 a25 a26 ⊢
  clear hNX a0 a1 a2 a4 a19 a20 a21 a22 a23 a24 a25 a26
  generalize dayB x.trade = d1 at H1 HW
  generalize dayB x.settle = d2 at H2 HW
  generalize x.trade = t1 at H1 HW a5
  generalize x.settle = t2 at H2 HW a6
  have B0 := Lib.hid (bl_alloc (bl_refl w) (.cells NX 26))
  have hcell := fun (W : World) (hb : Below (w.alloc (.cells NX 26)).heap.size (w.alloc (.cells NX 26)) W) => (⟨bl_cell (a := ⟨w.heap.size, 5, none⟩) (v := .int .i64 t1) hb (by simp [a5]), bl_cell (a := ⟨w.heap.size, 6, none⟩) (v := .int .i64 t2) hb (by simp [a6])⟩ : W.cell? ⟨w.heap.size, 5, none⟩ = some (.int .i64 t1) ∧ W.cell? ⟨w.heap.size, 6, none⟩ = some (.int .i64 t2))
  have HC := Lib.hid hcell
  clear hcell
  go_enter Tryz.func69, Tryz.ntmps69
  go_upto_region 2 with (go_at_call 70; with_reducible refine (H1.out _).mono ?_; rintro e w1 ⟨p1, p2, p3, E1, rfl, hE1, hb1⟩; have HB1 := Lib.hid hb1; clear hb1)
  have HB1' := Lib.hid (bl_alloc HB1.out (.cells #[.int .i64 p1, .int .i64 p2, .int .i64 p3] 117))
  obtain ⟨cx1, cx2⟩ := HC.out _ HB1'.out
  have ne1 := fun w => ne_of hE1 w
  have gn1 := fun x c w => guard_errN E1 x c w
  clear hE1
  go_upto_region 3 with (go_at_call 70; with_reducible refine (H2.out _).mono ?_; rintro e w2 ⟨q1, q2, q3, E2, rfl, hE2, hb2⟩; have HB2 := Lib.hid (bl_then HB1'.out hb2); clear hb2)
  clear cx1 cx2
  have HB2' := Lib.hid (bl_alloc HB2.out (.cells #[.int .i64 q1, .int .i64 q2, .int .i64 q3] 117))
  obtain ⟨cx1, cx2⟩ := HC.out _ HB2'.out
  have ne2 := fun w => ne_of hE2 w
  have gn2 := fun x c w => guard_errN E2 x c w
  clear hE2
  have HBZ := Lib.hid (bl_then (bl_alloc (bl_refl w) (.cells NX 26)) HB2'.out)
  cases d1 <;> cases d2
  all_goals go_wp2
  all_goals go_ret
  all_goals exact ⟨by rw [HW.out]; simp [go_sem], HBZ.out⟩
theorem zeros12_size : zeros12.size = 12 := rfl
theorem check4_any (x : Nt) (hx : x.wf) (w : World) (hp : PowT w) :
    Calls Tryz.prog 71 #[.agg (noteC x)] w fun e w' => e = .returned (.bool (wrong3 x)) ∧ Below w.heap.size w w' := by
  have HU := Lib.hid refused_any
  have HP := Lib.hid (hp.below (bl_alloc (bl_refl w) (.cells (noteC x) 26)))
  have HI := Lib.hid (fun w hp => isin_any (codeB x.code) (by rw [codeB_size]; omega) w hp)
  have HW : Hid (wrong3 x = !isinOK (codeB x.code)) := Lib.hid rfl
  have HC := Lib.hid (code_text x.code hx.code (w.alloc (.cells (noteC x) 26)) ⟨w.heap.size, 7, none⟩ 12 (fun j hj => by
    have hadd : (⟨w.heap.size, 7, none⟩ : Addr).add j = ⟨w.heap.size, 7 + j, none⟩ := by unfold Addr.add; split <;> simp_all
    rw [hadd, cell_of_row _ w.heap.size (7 + j) (noteC x) _ _ (heap_alloc_new w _)]
    exact code_part x j _ (by rw [Array.getElem?_toList]; exact codeV_at x.code j hj)))
  generalize codeB x.code = s at HC HI HW
  generalize isinOK s = ok at HI HW
  generalize hNX : noteC x = NX at HC HP ⊢
  clear hNX
  have hcv := HC.out
  go_enter Tryz.func71, Tryz.ntmps71
  go_wp2_with (first | (go_at_call 72; with_reducible refine (HI.out _ HP.out).mono ?_; rintro e w1 ⟨cs, E, rfl, ⟨hz, ho⟩, hE, hEok, hb⟩; have HS := Lib.hid (storeVar_new Tryz.prog w1 23 23 zeros12 cs (by rw [hz]; exact code_size) (zeros12_size.trans hz.symm) ho)) | (refine wpList_store_plain rfl rfl 23 (.tmp 3) (.tmp 10) rfl ⟨w1.heap.size, 0, none⟩ (.agg cs) rfl rfl HS.out ?_) | (go_at_call 73; with_reducible refine (HU.out _ _).mono ?_; rintro e w2 ⟨rfl, rfl⟩))
  go_ret
  exact ⟨by rw [HW.out, ← hE]; rfl, bl_then (bl_alloc (bl_refl w) _) (bl_alloc hb _)⟩
theorem check7_any (x : Nt) (hx : x.wf) (w : World) (hp : PowT w) :
    Calls Tryz.prog 77 #[.agg (noteC x)] w fun e w' => e = .returned (.bool (wrong6 x)) ∧ Below w.heap.size w w' := by
  obtain ⟨a0, a1, a2, a4, a5, a6, a19, a20, a21, a22, a23, a24, a25, a26⟩ := note_at x
  have HU := Lib.hid refused_any
  have HP := Lib.hid (hp.below (bl_alloc (bl_refl w) (.cells (noteC x) 26)))
  have HI : Hid (∀ w, PowT w → Calls Tryz.prog 78 #[.string x.agent] w fun e w' => ∃ E : GErr, e = .returned (.tuple #[.agg #[.string (bicP x.agent 0), .string (bicP x.agent 1), .string (bicP x.agent 2), .string (bicP x.agent 3)], E.val]) ∧ E.isNil = bicOK x.agent ∧ E.ok ∧ Below w.heap.size w w') := Lib.hid (fun w hp => bic_any x.agent hx.agent w hp)
  have HW : Hid (wrong6 x = !bicOK x.agent) := Lib.hid rfl
  generalize hNX : noteC x = NX at HP a0 a1 a2 a4 a5 a6 a19 a20 a21 a22 a23 a24 a25 a26 ⊢
  clear hNX
  generalize bicOK x.agent = ok at HI HW
  go_enter Tryz.func77, Tryz.ntmps77
  go_wp2_with (first | (go_at_call 78; with_reducible refine (HI.out _ HP.out).mono ?_; rintro e w1 ⟨E, rfl, hE, hEok, hb⟩) | (go_at_call 73; with_reducible refine (HU.out _ _).mono ?_; rintro e w2 ⟨rfl, rfl⟩))
  go_ret
  exact ⟨by rw [HW.out, ← hE]; rfl, bl_then (bl_alloc (bl_refl w) _) (bl_alloc hb _)⟩
end Go.Proofs.YtblfobepaipebaaGreatDoor
