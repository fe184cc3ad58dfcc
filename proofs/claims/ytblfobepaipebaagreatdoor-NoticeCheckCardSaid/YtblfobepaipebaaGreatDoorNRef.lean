/- The document's head, sides and Check of a notice, by contracts. -/
import Derived.Test.YtblfobepaipebaaGreatDoorNCheck
set_option linter.unusedVariables false
set_option linter.unusedSimpArgs false
set_option maxRecDepth 100000
namespace Go.Proofs.YtblfobepaipebaaGreatDoor
open Go.RowKit Go.Shelf

def refHeadE (x : Nt) : Int := if wrong0 x || wrong1 x then 6 else if wrong2 x then 8 else if wrong3 x then 4 else 0
def refSidesE (x : Nt) : Int := if wrong4 x then 16 else if wrong5 x then 14 else if wrong6 x then 4 else if wrong7 x then 14 else if wrong10 x then 1 else if wrong8 x then 16 else if wrong9 x then 4 else 0
theorem box_row (x : Nt) (w W : World) (hb : Below (w.alloc (.cells (noteC x) 26)).heap.size (w.alloc (.cells (noteC x) 26)) W) : W.heap[w.heap.size]? = some (.cells (noteC x) 26 (0, 0)) := heap_kept hb
theorem box_head (x : Nt) (w W : World) (hb : Below (w.alloc (.cells (noteC x) 26)).heap.size (w.alloc (.cells (noteC x) 26)) W) :
    W.cell? ⟨w.heap.size, 1, none⟩ = some (.string x.prev) ∧ W.cell? ⟨w.heap.size, 2, none⟩ = some (.bool x.cancel) ∧ W.cell? ⟨w.heap.size, 5, none⟩ = some (.int .i64 x.trade) ∧ W.cell? ⟨w.heap.size, 6, none⟩ = some (.int .i64 x.settle) := by
  have h := box_row x w W hb
  refine ⟨?_, ?_, ?_, ?_⟩ <;> (rw [cell_of_row W _ _ _ _ _ h]; rfl)
theorem box_sides (x : Nt) (w W : World) (hb : Below (w.alloc (.cells (noteC x) 26)).heap.size (w.alloc (.cells (noteC x) 26)) W) :
    W.cell? ⟨w.heap.size, 4, none⟩ = some (.bool x.pay) ∧ W.cell? ⟨w.heap.size, 20, none⟩ = some (.string x.account) ∧ W.cell? ⟨w.heap.size, 21, none⟩ = some (.string x.agent) ∧ W.cell? ⟨w.heap.size, 22, none⟩ = some (.string x.other) ∧ W.cell? ⟨w.heap.size, 23, none⟩ = some (.int .i64 x.amount) ∧ W.cell? ⟨w.heap.size, 24, none⟩ = some (.string x.currency) := by
  have h := box_row x w W hb
  refine ⟨?_, ?_, ?_, ?_, ?_, ?_⟩ <;> (rw [cell_of_row W _ _ _ _ _ h]; rfl)
theorem nz_of {n : Int} {b : Bool} (h : (n == 0) = b) : (n != 0) = !b := by rw [bne, h]
set_option maxHeartbeats 1000000 in
theorem refHead_any (x : Nt) (hx : x.wf) (w : World) :
    Calls Tryz.prog 33 #[.agg (noteC x)] w fun e w' => e = .returned (.int .i64 (refHeadE x)) ∧ Below w.heap.size w w' := by
  have HR := Lib.hid (fun w => refReference_any x.ref hx.ref w)
  have HP := Lib.hid (fun w => refReference_any x.prev hx.prev w)
  have HI := Lib.hid (fun w => refIs_any x.trade w)
  have HJ := Lib.hid (fun w => refIs_any x.settle w)
  have HC := Lib.hid (fun w => refCode_any x.code hx.code w)
  have HS := Lib.hid (fun w => refIsin_any (codeB x.code) (by rw [codeB_size]; omega) w)
  have HBX := Lib.hid (box_head x w)
  have HLC := Lib.hid (fun W hb => load_code x W w.heap.size _ (box_row x w W hb))
  have HE : Hid (refHeadE x = if wrong0 x || wrong1 x then 6 else if wrong2 x then 8 else if wrong3 x then 4 else 0) := Lib.hid rfl
  have e0 : wrong0 x = !refOK x.ref := rfl
  have e1 : wrong1 x = if x.cancel then !refOK x.prev else !empS x.prev := rfl
  have e2 : wrong2 x = (!dayB x.trade || !dayB x.settle || decide (x.settle < x.trade)) := rfl
  have e3 : wrong3 x = !isinOK (codeB x.code) := rfl
  have a0 : (noteC x)[0]? = some (.string x.ref) := rfl
  unfold empS at e1
  have B0 := Lib.hid (bl_alloc (bl_refl w) (.cells (noteC x) 26))
  generalize codeV x.code = CV at HC HLC
  generalize codeB x.code = CB at HC HS e3
  generalize noteC x = NX at HBX HLC a0 B0 ⊢
  generalize isinOK CB = io at HS e3
  generalize dayB x.trade = d1 at HI e2
  generalize dayB x.settle = d2 at HJ e2
  generalize refOK x.ref = r1 at HR e0
  generalize refOK x.prev = r2 at HP e1
  generalize x.trade = tr at HI HBX e2
  generalize x.settle = se at HJ HBX e2
  generalize x.prev = pv at HP HBX e1
  generalize x.ref = rf at HR a0
  generalize x.cancel = cn at HBX e1
  generalize wrong0 x = v0 at HE e0
  generalize wrong1 x = v1 at HE e1
  generalize wrong2 x = v2 at HE e2
  generalize wrong3 x = v3 at HE e3
  generalize refHeadE x = R at HE ⊢
  have E0 := Lib.hid e0
  have E1 := Lib.hid e1
  have E2 := Lib.hid e2
  have E3 := Lib.hid e3
  clear e0 e1 e2 e3
  go_enter Tryz.func33, Tryz.ntmps33
  go_upto_region 1 with fail
  have HW0 := Lib.hid (bl_refl (w.alloc (.cells NX 26)))
  obtain ⟨W1, hW1⟩ : ∃ W, W = w.alloc (.cells NX 26) := ⟨_, rfl⟩
  have c00 : W1.cell? ⟨w.heap.size, 0, none⟩ = some (.string rf) := by rw [hW1]; simp [a0]
  rw [← hW1] at HBX HLC B0 HW0 ⊢
  clear hW1 a0
  go_cut [28] (fun cc wx => cc = .bool (v0 || v1) ∧ Below W1.heap.size W1 wx)
  case first =>
    cases r1 with
    | false =>
      go_wp2_with (first | (go_at_call 35; with_reducible refine (HR.out _).mono ?_; rintro e w1 ⟨rfl, hb1⟩; have HB1 := Lib.hid hb1; clear hb1))
      go_meet
      exact ⟨by rw [E0.out]; rfl, HB1.out⟩
    | true =>
      cases cn with
      | true =>
        go_wp2_with (first | (go_at_call 35; first | (with_reducible refine (HR.out _).mono ?_; rintro e w1 ⟨rfl, hb1⟩; have HB1 := Lib.hid hb1; obtain ⟨k1, k2, k3, k4⟩ := HBX.out _ HB1.out; clear hb1) | (with_reducible refine (HP.out _).mono ?_; rintro e w2 ⟨rfl, hb2⟩; have HB2 := Lib.hid (bl_then HB1.out hb2); obtain ⟨k1, k2, k3, k4⟩ := HBX.out _ HB2.out; clear hb2))) <;> skip
        all_goals go_meet
        all_goals exact ⟨by rw [E0.out, E1.out]; simp [*], HB2.out⟩
      | false =>
        go_wp2_with (first | (go_at_call 35; with_reducible refine (HR.out _).mono ?_; rintro e w1 ⟨rfl, hb1⟩; have HB1 := Lib.hid hb1; obtain ⟨k1, k2, k3, k4⟩ := HBX.out _ HB1.out; clear hb1))
        all_goals go_meet
        all_goals exact ⟨by rw [E0.out, E1.out]; simp [*], HB1.out⟩
  case rest =>
    obtain ⟨rfl, hbx⟩ := hcut
    have HBA := Lib.hid hbx
    clear hbx HR HP E0 E1 c00
    generalize (v0 || v1) = b1 at HE ⊢
    cases b1 with
    | true =>
      have HQ : Hid (R = 6) := Lib.hid HE.out
      clear HE
      go_wp2
      go_ret
      exact ⟨by rw [HQ.out]; rfl, bl_then B0.out HBA.out⟩
    | false =>
      obtain ⟨k1, k2, k3, k4⟩ := HBX.out _ HBA.out
      go_upto_region 3 with fail
      go_cut [45] (fun cc wy => cc = .bool v2 ∧ wc = wy)
      case first =>
        cases d1 with
        | false =>
          go_wp2_with (first | (go_at_call 89; with_reducible refine (HI.out _).mono ?_; rintro e w1 ⟨rfl, rfl⟩))
          go_meet
          exact ⟨by rw [E2.out]; rfl, rfl⟩
        | true =>
          cases d2 with
          | false =>
            go_wp2_with (first | (go_at_call 89; first | (with_reducible refine (HI.out _).mono ?_; rintro e w1 ⟨rfl, rfl⟩) | (with_reducible refine (HJ.out _).mono ?_; rintro e w1 ⟨rfl, rfl⟩)))
            all_goals go_meet
            all_goals exact ⟨by rw [E2.out]; simp [*], rfl⟩
          | true =>
            go_wp2_with (first | (go_at_call 89; first | (with_reducible refine (HI.out _).mono ?_; rintro e w1 ⟨rfl, rfl⟩) | (with_reducible refine (HJ.out _).mono ?_; rintro e w1 ⟨rfl, rfl⟩)))
            all_goals go_meet
            all_goals exact ⟨by rw [E2.out]; simp [*], rfl⟩
      case rest =>
        obtain ⟨rfl, rfl⟩ := hcut
        clear E2 HI HJ k1 k2 k3 k4
        cases v2 with
        | true =>
          have HQ : Hid (R = 8) := Lib.hid HE.out
          clear HE
          go_wp2
          go_ret
          exact ⟨by rw [HQ.out]; rfl, bl_then B0.out HBA.out⟩
        | false =>
          have HQ : Hid (R = if v3 = true then 4 else 0) := Lib.hid HE.out
          have LC := Lib.hid (HLC.out _ HBA.out)
          cases io with
          | true =>
            have HZ : Hid (R = 0) := Lib.hid (by rw [HQ.out, E3.out]; rfl)
            clear HQ E3 HE
            go_wp2_with (first | (refine wpList_load_known rfl 23 (.tmp 47) rfl _ _ rfl LC.out ?_) | (go_at_call 91; with_reducible refine (HC.out _).mono ?_; rintro e w1 ⟨rfl, hb1⟩; have HB1 := Lib.hid (bl_then HBA.out hb1); clear hb1) | (go_at_call 90; with_reducible refine (HS.out _).mono ?_; rintro e w2 ⟨n, a, rfl, hn, hb2⟩; have HB2 := Lib.hid (bl_then HB1.out hb2); have hnz := nz_of hn; clear hb2 hn))
            go_ret
            exact ⟨by rw [HZ.out]; rfl, bl_then B0.out HB2.out⟩
          | false =>
            have HZ : Hid (R = 4) := Lib.hid (by rw [HQ.out, E3.out]; rfl)
            clear HQ E3 HE
            go_wp2_with (first | (refine wpList_load_known rfl 23 (.tmp 47) rfl _ _ rfl LC.out ?_) | (go_at_call 91; with_reducible refine (HC.out _).mono ?_; rintro e w1 ⟨rfl, hb1⟩; have HB1 := Lib.hid (bl_then HBA.out hb1); clear hb1) | (go_at_call 90; with_reducible refine (HS.out _).mono ?_; rintro e w2 ⟨n, a, rfl, hn, hb2⟩; have HB2 := Lib.hid (bl_then HB1.out hb2); have hnz := nz_of hn; clear hb2 hn))
            go_ret
            exact ⟨by rw [HZ.out]; rfl, bl_then B0.out HB2.out⟩
set_option maxHeartbeats 1000000 in
theorem refSides_any (x : Nt) (hx : x.wf) (w : World) :
    Calls Tryz.prog 34 #[.agg (noteC x)] w fun e w' => e = .returned (.int .i64 (refSidesE x)) ∧ Below w.heap.size w w' := by
  have HA := Lib.hid (fun w => refAccount_any x.account hx.account w)
  have HO := Lib.hid (fun w => refAccount_any x.other hx.other w)
  have HB : Hid (∀ w, Calls Tryz.prog 93 #[.string x.agent] w fun e w' => ∃ n a : Int, e = .returned (.tuple #[bicV x.agent, .int .i64 n, .int .i64 a]) ∧ (n == 0) = bicOK x.agent ∧ Below w.heap.size w w') := Lib.hid (fun w => refBic_any x.agent hx.agent w)
  have HC : Hid (∀ w, Calls Tryz.prog 94 #[.string x.currency] w fun e w' => ∃ n a : Int, e = .returned (.tuple #[.int .i64 n, .int .i64 a]) ∧ (n == 0) = hasOK x.currency formC ∧ Below w.heap.size w w') := Lib.hid (fun w => refCurrency_any x.currency hx.currency w)
  have HBX := Lib.hid (box_sides x w)
  have HE : Hid (refSidesE x = if wrong4 x then 16 else if wrong5 x then 14 else if wrong6 x then 4 else if wrong7 x then 14 else if wrong10 x then 1 else if wrong8 x then 16 else if wrong9 x then 4 else 0) := Lib.hid rfl
  have e4 : wrong4 x = decide (x.qty < 1) := rfl
  have e5 : wrong5 x = !accOK x.account := rfl
  have e6 : wrong6 x = !bicOK x.agent := rfl
  have e7 : wrong7 x = !accOK x.other := rfl
  have e8 : wrong8 x = (x.pay && decide (x.amount < 1)) := rfl
  have e9 : wrong9 x = (x.pay && !hasOK x.currency formC) := rfl
  have e10 : wrong10 x = (!x.pay && (x.amount != 0 || !empS x.currency)) := rfl
  have a19 : (noteC x)[19]? = some (.int .i64 x.qty) := rfl
  unfold empS at e10
  have B0 := Lib.hid (bl_alloc (bl_refl w) (.cells (noteC x) 26))
  generalize noteC x = NX at HBX a19 B0 ⊢
  generalize accOK x.account = o5 at HA e5
  generalize bicOK x.agent = o6 at HB e6
  generalize accOK x.other = o7 at HO e7
  generalize hasOK x.currency formC = o9 at HC e9
  generalize bicV x.agent = BV at HB
  generalize x.account = s1 at HA HBX
  generalize x.agent = s2 at HB HBX
  generalize x.other = s3 at HO HBX
  generalize x.currency = s4 at HC HBX e10
  generalize x.amount = am at HBX e8 e10
  generalize x.pay = py at HBX e8 e9 e10
  generalize x.qty = qt at a19 e4
  generalize wrong4 x = v4 at HE e4
  generalize wrong5 x = v5 at HE e5
  generalize wrong6 x = v6 at HE e6
  generalize wrong7 x = v7 at HE e7
  generalize wrong8 x = v8 at HE e8
  generalize wrong9 x = v9 at HE e9
  generalize wrong10 x = v10 at HE e10
  generalize refSidesE x = R at HE ⊢
  have E8 := Lib.hid e8
  have E9 := Lib.hid e9
  have E10 := Lib.hid e10
  subst e5 e6 e7
  clear e8 e9 e10
  go_enter Tryz.func34, Tryz.ntmps34
  go_upto_region 1 with fail
  have HW0 := Lib.hid (bl_refl (w.alloc (.cells NX 26)))
  obtain ⟨W1, hW1⟩ : ∃ W, W = w.alloc (.cells NX 26) := ⟨_, rfl⟩
  have c00 : W1.cell? ⟨w.heap.size, 19, none⟩ = some (.int .i64 qt) := by rw [hW1]; simp [a19]
  rw [← hW1] at HBX B0 HW0 ⊢
  clear hW1 a19
  by_cases h4 : qt < 1
  · have HQ : Hid (R = 16) := Lib.hid (by rw [HE.out, e4, decide_eq_true h4]; rfl)
    clear HE e4
    go_wp2
    go_ret
    exact ⟨by rw [HQ.out]; rfl, B0.out⟩
  have HE4 := Lib.hid (show R = _ by rw [HE.out, e4, decide_eq_false h4, if_neg (by decide)])
  clear HE e4
  obtain ⟨k1, k2, k3, k4, k5, k6⟩ := HBX.out _ HW0.out
  go_upto_region 4 with (go_at_call 92; with_reducible refine (HA.out _).mono ?_; rintro e w1 ⟨n, a, rfl, hn, hb1⟩; have HB1 := Lib.hid hb1; have hnz := nz_of hn; clear hb1 hn)
  clear HA k1 k2 k3 k4 k5 k6 c00 h4
  cases o5 with
  | false =>
    have HQ : Hid (R = 14) := Lib.hid HE4.out
    clear HE4
    go_wp2
    go_ret
    exact ⟨by rw [HQ.out]; rfl, bl_then B0.out HB1.out⟩
  | true =>
  have HE5 := Lib.hid (show R = _ from HE4.out.trans (if_neg (by decide)))
  clear HE4
  obtain ⟨k1, k2, k3, k4, k5, k6⟩ := HBX.out _ HB1.out
  go_upto_region 7 with (go_at_call 93; with_reducible refine (HB.out _).mono ?_; rintro e w2 ⟨n2, a2, rfl, hn, hb2⟩; have HB2 := Lib.hid (bl_then HB1.out hb2); have hnz2 := nz_of hn; clear hb2 hn)
  clear HB k1 k2 k3 k4 k5 k6 hnz
  cases o6 with
  | false =>
    have HQ : Hid (R = 4) := Lib.hid HE5.out
    clear HE5
    go_wp2
    go_ret
    exact ⟨by rw [HQ.out]; rfl, bl_then B0.out HB2.out⟩
  | true =>
  have HE6 := Lib.hid (show R = _ from HE5.out.trans (if_neg (by decide)))
  clear HE5
  obtain ⟨k1, k2, k3, k4, k5, k6⟩ := HBX.out _ HB2.out
  go_upto_region 10 with (go_at_call 92; with_reducible refine (HO.out _).mono ?_; rintro e w3 ⟨n3, a3, rfl, hn, hb3⟩; have HB3 := Lib.hid (bl_then HB2.out hb3); have hnz3 := nz_of hn; clear hb3 hn)
  clear HO k1 k2 k3 k4 k5 k6 hnz2
  cases o7 with
  | false =>
    have HQ : Hid (R = 14) := Lib.hid HE6.out
    clear HE6
    go_wp2
    go_ret
    exact ⟨by rw [HQ.out]; rfl, bl_then B0.out HB3.out⟩
  | true =>
  have HE7 := Lib.hid (show R = _ from HE6.out.trans (if_neg (by decide)))
  clear HE6
  obtain ⟨k1, k2, k3, k4, k5, k6⟩ := HBX.out _ HB3.out
  go_upto_region 12 with fail
  clear hnz3
  cases py with
  | false =>
    have E8' : v8 = false := E8.out
    have E9' : v9 = false := E9.out
    have E10' : v10 = (am != 0 || !s4.toList.isEmpty) := E10.out
    cases hv : v10 with
    | true =>
      have HQ : Hid (R = 1) := Lib.hid (by rw [HE7.out, hv]; rfl)
      cases ham : (am != 0) with
      | true =>
        clear HE7 E8 E9 E10 E8' E9' E10' hv
        go_wp2
        go_ret
        exact ⟨by rw [HQ.out]; rfl, bl_then B0.out HB3.out⟩
      | false =>
        have hem : s4.toList.isEmpty = false := by rw [hv, ham] at E10'; simpa using E10'.symm
        clear HE7 E8 E9 E10 E8' E9' E10' hv
        go_wp2
        go_ret
        exact ⟨by rw [HQ.out]; rfl, bl_then B0.out HB3.out⟩
    | false =>
      have HQ : Hid (R = 0) := Lib.hid (by rw [HE7.out, hv, E8', E9']; rfl)
      rw [hv] at E10'
      have E11 := E10'.symm
      rw [Bool.or_eq_false_iff] at E11
      obtain ⟨ham, hem⟩ := E11
      have hem2 : s4.toList.isEmpty = true := by simpa using hem
      clear HE7 E8 E9 E10 E8' E9' E10' hv hem
      go_wp2_with (go_at_call 94; with_reducible refine (HC.out _).mono ?_; rintro e w4 ⟨n4, a4, rfl, hn, hb4⟩; have HB4 := Lib.hid (bl_then HB3.out hb4); obtain ⟨k1, k2, k3, k4, k5, k6⟩ := HBX.out _ HB4.out; clear hb4 hn)
      go_ret
      exact ⟨by rw [HQ.out]; rfl, bl_then B0.out HB4.out⟩
  | true =>
    have E8' : v8 = decide (am < 1) := E8.out
    have E9' : v9 = !o9 := E9.out
    have E10' : v10 = false := E10.out
    by_cases ham : am < 1
    · have HQ : Hid (R = 16) := Lib.hid (by rw [HE7.out, E10', E8', decide_eq_true ham]; rfl)
      clear HE7 E8 E9 E10 E8' E9' E10'
      go_wp2
      go_ret
      exact ⟨by rw [HQ.out]; rfl, bl_then B0.out HB3.out⟩
    · have HQ : Hid (R = if (!o9) = true then 4 else 0) := Lib.hid (by rw [HE7.out, E10', E8', E9', decide_eq_false ham]; rfl)
      clear HE7 E8 E9 E10 E8' E9' E10'
      cases o9 with
      | true =>
        have HZ : Hid (R = 0) := Lib.hid HQ.out
        clear HQ
        go_wp2_with (go_at_call 94; with_reducible refine (HC.out _).mono ?_; rintro e w4 ⟨n4, a4, rfl, hn, hb4⟩; have HB4 := Lib.hid (bl_then HB3.out hb4); obtain ⟨k1, k2, k3, k4, k5, k6⟩ := HBX.out _ HB4.out; have hnz4 := nz_of hn; clear hb4 hn)
        go_ret
        exact ⟨by rw [HZ.out]; rfl, bl_then B0.out HB4.out⟩
      | false =>
        have HZ : Hid (R = 4) := Lib.hid HQ.out
        clear HQ
        go_wp2_with (go_at_call 94; with_reducible refine (HC.out _).mono ?_; rintro e w4 ⟨n4, a4, rfl, hn, hb4⟩; have HB4 := Lib.hid (bl_then HB3.out hb4); obtain ⟨k1, k2, k3, k4, k5, k6⟩ := HBX.out _ HB4.out; have hnz4 := nz_of hn; clear hb4 hn)
        go_ret
        exact ⟨by rw [HZ.out]; rfl, bl_then B0.out HB4.out⟩
end Go.Proofs.YtblfobepaipebaaGreatDoor
