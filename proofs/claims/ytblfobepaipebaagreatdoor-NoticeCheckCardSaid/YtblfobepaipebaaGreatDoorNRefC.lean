/- The document's Check of a notice, by its contract. -/
import Derived.Test.YtblfobepaipebaaGreatDoorNRef
set_option linter.unusedVariables false
set_option linter.unusedSimpArgs false
set_option maxRecDepth 100000
namespace Go.Proofs.YtblfobepaipebaaGreatDoor
open Go.RowKit Go.Shelf

def refNoteE (x : Nt) (lx : List Lk) : Int := if refHeadE x ≠ 0 then refHeadE x else if refSidesE x ≠ 0 then refSidesE x else if wrong11 x then 1 else if wrong12 x then 5 else linksE x.ref lx
theorem refHead_range (x : Nt) : 0 ≤ refHeadE x ∧ refHeadE x ≤ 24 := by
  unfold refHeadE
  split
  · omega
  split
  · omega
  split <;> omega
theorem refSides_range (x : Nt) : 0 ≤ refSidesE x ∧ refSidesE x ≤ 24 := by
  unfold refSidesE
  repeat' split
  all_goals omega
/-- Both orders of the checks tell the same. -/
theorem refNote_eq (x : Nt) (lx : List Lk) : refNoteE x lx = noteE x lx := by
  have h8 : wrong8 x = (x.pay && decide (x.amount < 1)) := rfl
  have h9 : wrong9 x = (x.pay && !hasOK x.currency formC) := rfl
  have h10 : wrong10 x = (!x.pay && (x.amount != 0 || !empS x.currency)) := rfl
  have e : headE x = if wrong0 x then 6 else if wrong1 x then 6 else if wrong2 x then 8 else if wrong3 x then 4 else if wrong4 x then 16 else if wrong5 x then 14 else if wrong6 x then 4 else if wrong7 x then 14 else if wrong8 x then 16 else if wrong9 x then 4 else if wrong10 x then 1 else if wrong11 x then 1 else if wrong12 x then 5 else 0 := rfl
  unfold refNoteE noteE refHeadE refSidesE
  rw [e]
  clear e
  generalize wrong8 x = b8 at *
  generalize wrong9 x = b9 at *
  generalize wrong10 x = b10 at *
  cases hp : x.pay with
  | true =>
    simp [hp] at h10
    subst h10
    cases wrong0 x <;> cases wrong1 x <;> cases wrong2 x <;> cases wrong3 x <;> try rfl
    cases wrong4 x <;> cases wrong5 x <;> cases wrong6 x <;> cases wrong7 x <;> try rfl
    cases b8 <;> cases b9 <;> try rfl
    cases wrong11 x <;> cases wrong12 x <;> rfl
  | false =>
    simp [hp] at h8 h9
    subst h8 h9
    cases wrong0 x <;> cases wrong1 x <;> cases wrong2 x <;> cases wrong3 x <;> try rfl
    cases wrong4 x <;> cases wrong5 x <;> cases wrong6 x <;> cases wrong7 x <;> try rfl
    cases b10 <;> try rfl
    cases wrong11 x <;> cases wrong12 x <;> rfl
theorem box_rest (x : Nt) (w W : World) (hb : Below (w.alloc (.cells (noteC x) 26)).heap.size (w.alloc (.cells (noteC x) 26)) W) :
    W.cell? ⟨w.heap.size, 0, none⟩ = some (.string x.ref) ∧ W.cell? ⟨w.heap.size, 25, none⟩ = some (.int .i64 x.priority) ∧ W.cell? ⟨w.heap.size, 26, none⟩ = some (.slice x.la x.ln x.lc) := by
  have h := box_row x w W hb
  refine ⟨?_, ?_, ?_⟩ <;> (rw [cell_of_row W _ _ _ _ _ h]; rfl)
set_option maxHeartbeats 1000000 in
theorem refCheck_any (x : Nt) (hx : x.wf) (lx : List Lk) (w : World) (hr : RdL w x.la x.ln lx) (hok : OkL lx) (hn : x.ln ≤ 5864062014805) :
    Calls Tryz.prog 12 #[.agg (noteC x)] w fun e w' => e = .returned (.int .i64 (refNoteE x lx)) ∧ Below w.heap.size w w' := by
  have HHD := Lib.hid (fun w => refHead_any x hx w)
  have HSD := Lib.hid (fun w => refSides_any x hx w)
  have HBX := Lib.hid (box_rest x w)
  have HLD := Lib.hid (fun W hb => note_load x W w.heap.size _ (box_row x w W hb))
  have HE : Hid (refNoteE x lx = if refHeadE x ≠ 0 then refHeadE x else if refSidesE x ≠ 0 then refSidesE x else if wrong11 x then 1 else if wrong12 x then 5 else linksE x.ref lx) := Lib.hid rfl
  have e11 : wrong11 x = (decide (x.priority < 0) || decide (9999 < x.priority)) := rfl
  have e12 : wrong12 x = decide ((16 : Int) < x.ln) := rfl
  have hlen := hr.1
  have B0 := Lib.hid (bl_alloc (bl_refl w) (.cells (noteC x) 26))
  have HRD := Lib.hid (fun (W : World) (hb : Below (w.alloc (.cells (noteC x) 26)).heap.size (w.alloc (.cells (noteC x) 26)) W) => (hr.below (bl_then B0.out hb) : RdL W x.la x.ln lx))
  have HOK := Lib.hid hok
  have HLN := Lib.hid hlen
  clear hr hok hlen
  generalize x.la = LA at HBX HRD
  generalize x.lc = LC at HBX
  generalize hLNN : x.ln = LNN at HBX HRD hn HLN e12
  clear hLNN
  generalize noteC x = NX at HHD HSD HBX HLD B0 HRD ⊢
  have hR1 := refHead_range x
  have hR2 := refSides_range x
  generalize refHeadE x = R1 at HHD HE hR1
  generalize refSidesE x = R2 at HSD HE hR2
  generalize x.priority = PR at HBX e11
  generalize wrong11 x = v11 at HE e11
  generalize wrong12 x = v12 at HE e12
  generalize x.ref = RF at HE HBX
  generalize refNoteE x lx = R at HE ⊢
  go_enter Tryz.func12, Tryz.ntmps12
  go_upto_region 1 with fail
  have HW0 := Lib.hid (bl_refl (w.alloc (.cells NX 26)))
  obtain ⟨W1, hW1⟩ : ∃ W, W = w.alloc (.cells NX 26) := ⟨_, rfl⟩
  have hsz : w.heap.size < W1.heap.size := by rw [hW1]; simp
  rw [← hW1] at HBX HLD B0 HW0 HRD ⊢
  clear hW1
  have L1 := Lib.hid (HLD.out _ HW0.out)
  go_upto_region 2 with (first | (refine wpList_load_known rfl 26 (.tmp 1) rfl ⟨w.heap.size, 0, none⟩ (.agg NX) rfl L1.out ?_) | (go_at_call 33; with_reducible refine (HHD.out _).mono ?_; rintro e w1 ⟨rfl, hb1⟩; have HB1 := Lib.hid hb1; clear hb1))
  clear L1 HHD HW0
  by_cases h1 : R1 = 0
  · subst h1
    have HE1 := Lib.hid (HE.out.trans (if_neg (by simp)))
    clear HE
    have L2 := Lib.hid (HLD.out _ HB1.out)
    go_upto_region 5 with (first | (refine wpList_load_known rfl 26 (.tmp 1) rfl ⟨w.heap.size, 0, none⟩ (.agg NX) rfl L2.out ?_) | (go_at_call 34; with_reducible refine (HSD.out _).mono ?_; rintro e w2 ⟨rfl, hb2⟩; have HB2 := Lib.hid (bl_then HB1.out hb2); clear hb2))
    clear L2 HSD HB1
    by_cases h2 : R2 = 0
    · subst h2
      have HE2 := Lib.hid (HE1.out.trans (if_neg (by simp)))
      clear HE1
      obtain ⟨k0, k25, k26⟩ := HBX.out _ HB2.out
      cases v11 with
      | true =>
        have HQ : Hid (R = 1) := Lib.hid HE2.out
        clear HE2 HLD HRD
        by_cases p1 : PR < 0
        · clear e11
          go_wp2
          go_ret
          exact ⟨by rw [HQ.out]; rfl, bl_then B0.out HB2.out⟩
        · have p2 : 9999 < PR := by simp [p1] at e11; exact e11
          clear e11
          go_wp2
          go_ret
          exact ⟨by rw [HQ.out]; rfl, bl_then B0.out HB2.out⟩
      | false =>
        have p12 : ¬ PR < 0 ∧ ¬ 9999 < PR := by
          have := e11.symm
          simpa using this
        obtain ⟨p1, p2⟩ := p12
        clear e11
        cases v12 with
        | true =>
          have HQ : Hid (R = 5) := Lib.hid HE2.out
          have q16 : (16 : Int) < LNN := of_decide_eq_true e12.symm
          clear HE2 HLD HRD e12
          go_wp2
          go_ret
          exact ⟨by rw [HQ.out]; rfl, bl_then B0.out HB2.out⟩
        | false =>
          have HQ : Hid (R = linksE RF (lx.drop 0)) := Lib.hid HE2.out
          have q16 : ¬ (16 : Int) < LNN := of_decide_eq_false e12.symm
          clear HE2 HLD e12
          have HBX2 := HB2
          go_wp2
          go_loopg [4] LNN (fun g vi wr => ∃ k : Nat, vi = .int .i64 k ∧ k ≤ LNN ∧ LNN - k ≤ g ∧ Hid (Below W1.heap.size W1 wr) ∧ Hid (R = linksE RF (lx.drop k)))
          case atStart => exact ⟨0, rfl, by omega, by omega, HBX2, HQ⟩
          case round =>
            clear HBX2 HB2 HQ k0 k25 k26
            obtain ⟨k, rfl, hk, hg, HB, HH⟩ := hrel
            obtain ⟨k0, k25, k26⟩ := HBX.out _ HB.out
            by_cases hlt : k < LNN
            · have hltz : (k : Int) < (LNN : Int) := by omega
              obtain ⟨ad, hla, hc1, hc2⟩ := (HRD.out _ HB.out).2 k hlt
              subst hla
              have hlk : k < lx.length := by have := HLN.out; omega
              have HLE := Lib.hid (HH.out.trans (linksE_at (ref := RF) hlk))
              have hlo := HOK.out k
              have HL := Lib.hid (load_link hc1 hc2)
              clear hc1 hc2 HH HRD hlk
              generalize lx.getD k lk0 = l at HLE hlo HL
              obtain ⟨lk, ls⟩ := l
              obtain ⟨hlo1, hlo2⟩ := hlo
              have hsz2 : w.heap.size < wr.heap.size := Nat.lt_of_lt_of_le hsz HB.out.size
              have BZ := Lib.hid (fun (o : Obj) => bl_then B0.out (bl_alloc HB.out o))
              have BZ' := Lib.hid (fun (o : Obj) => bl_alloc HB.out o)
              by_cases h1 : lk < 1
              · have HQ : Hid (R = 24) := Lib.hid (by rw [HLE.out, link_24 (.inl h1), if_neg (by decide)])
                clear HLE
                go_wp2_with (first | (refine wpList_load_known rfl 42 (.tmp 38) rfl _ _ rfl HL.out ?_))
                go_ret
                exact ⟨by rw [HQ.out]; rfl, BZ.out _⟩
              · by_cases h3 : 3 < lk
                · have HQ : Hid (R = 24) := Lib.hid (by rw [HLE.out, link_24 (.inr h3), if_neg (by decide)])
                  clear HLE
                  go_wp2_with (first | (refine wpList_load_known rfl 42 (.tmp 38) rfl _ _ rfl HL.out ?_))
                  go_ret
                  exact ⟨by rw [HQ.out]; rfl, BZ.out _⟩
                · have hno : ¬ ((lk, ls).1 < 1 ∨ 3 < (lk, ls).1) := fun h => h.elim h1 h3
                  have HRF := Lib.hid (fun w => refReference_any ls hlo2 w)
                  cases hro : refOK ls with
                  | false =>
                    have HQ : Hid (R = 6) := Lib.hid (by rw [HLE.out, link_6 hno hro, if_neg (by decide)])
                    rw [hro] at HRF
                    clear HLE hro hno
                    go_wp2_with (first | (refine wpList_load_known rfl 42 (.tmp 38) rfl _ _ rfl HL.out ?_) | (go_at_call 35; with_reducible refine (HRF.out _).mono ?_; rintro e w3 ⟨rfl, hb3⟩; have HB3 := Lib.hid (bl_then (BZ.out _) hb3); clear hb3))
                    go_ret
                    exact ⟨by rw [HQ.out]; rfl, HB3.out⟩
                  | true =>
                    cases hsm : (ls.toList == RF.toList) with
                    | true =>
                      have HQ : Hid (R = 17) := Lib.hid (by rw [HLE.out, link_17 hno hro hsm, if_neg (by decide)])
                      rw [hro] at HRF
                      clear HLE hro hno
                      go_wp2_with (first | (refine wpList_load_known rfl 42 (.tmp 38) rfl _ _ rfl HL.out ?_) | (go_at_call 35; with_reducible refine (HRF.out _).mono ?_; rintro e w3 ⟨rfl, hb3⟩; have HB3 := Lib.hid (bl_then (BZ.out _) hb3); have cs1 := bl_cell (a := ⟨wr.heap.size, 1, none⟩) (v := .string ls) hb3 (by simp); have cr1 := bl_cell (a := ⟨w.heap.size, 0, none⟩) (v := .string RF) hb3 (al_cell k0); clear hb3))
                      go_ret
                      exact ⟨by rw [HQ.out]; rfl, HB3.out⟩
                    | false =>
                      have HQ : Hid (R = linksE RF (lx.drop (k + 1))) := Lib.hid (by rw [HLE.out, if_pos (link_0 hno hro hsm)])
                      rw [hro] at HRF
                      clear HLE hro hno
                      go_wp2_with (first | (refine wpList_load_known rfl 42 (.tmp 38) rfl _ _ rfl HL.out ?_) | (go_at_call 35; with_reducible refine (HRF.out _).mono ?_; rintro e w3 ⟨rfl, hb3⟩; have HB3 := Lib.hid (bl_then (BZ'.out _) hb3); have cs1 := bl_cell (a := ⟨wr.heap.size, 1, none⟩) (v := .string ls) hb3 (by simp); have cr1 := bl_cell (a := ⟨w.heap.size, 0, none⟩) (v := .string RF) hb3 (al_cell k0); clear hb3))
                      go_roundg (LNN - (k + 1))
                      case measure => omega
                      case rel => exact ⟨k + 1, by go_num, by omega, by omega, HB3, HQ⟩
            · have e : k = LNN := by omega
              have hltz : ¬ (k : Int) < (LNN : Int) := by omega
              have HQ : Hid (R = 0) := Lib.hid (by rw [HH.out, List.drop_eq_nil_of_le (by have := HLN.out; omega)]; rfl)
              have HZ := Lib.hid (bl_then B0.out HB.out)
              clear HH
              go_wp2
              go_ret
              exact ⟨by rw [HQ.out]; rfl, HZ.out⟩
    · have HQ : Hid (R = R2) := Lib.hid (HE1.out.trans (if_pos h2))
      have hnz : (R2 != 0) = true := by simp [h2]
      clear HE1
      go_wp2
      go_ret
      exact ⟨by rw [HQ.out]; rfl, bl_then B0.out HB2.out⟩
  · have HQ : Hid (R = R1) := Lib.hid (HE.out.trans (if_pos h1))
    have hnz : (R1 != 0) = true := by simp [h1]
    clear HE
    go_wp2
    go_ret
    exact ⟨by rw [HQ.out]; rfl, bl_then B0.out HB1.out⟩
end Go.Proofs.YtblfobepaipebaaGreatDoor
