/- Joined texts of this proof: NCheck. -/
import Derived.Test.YtphabkaiheplpaaGreatDoorRests8
import Derived.Test.YtphabkaiheplpaaGreatDoorRests14
/- notice.Check by its contract: the number of the first thing that is wrong. -/
set_option linter.unusedVariables false
set_option linter.unusedSimpArgs false
set_option maxRecDepth 100000
namespace Go.Proofs.YtphabkaiheplpaaGreatDoor
open Go.RowKit Go.Shelf

def linkE (ref : ByteArray) (l : Lk) : Int := if l.1 < 1 ∨ 3 < l.1 then 24 else if refOK l.2 then (if l.2.toList == ref.toList then 17 else 0) else 6
def linksE (ref : ByteArray) : List Lk → Int
  | [] => 0
  | l :: r => if linkE ref l = 0 then linksE ref r else linkE ref l
theorem linksE_at {ref : ByteArray} {lx : List Lk} {k : Nat} (h : k < lx.length) : linksE ref (lx.drop k) = if linkE ref (lx.getD k lk0) = 0 then linksE ref (lx.drop (k + 1)) else linkE ref (lx.getD k lk0) := by
  rw [List.drop_eq_getElem_cons h, List.getD_eq_getElem?_getD, List.getElem?_eq_getElem h]
  rfl
def noteE (x : Nt) (lx : List Lk) : Int := if headE x = 0 then linksE x.ref lx else headE x
theorem link_24 {ref : ByteArray} {l : Lk} (h : l.1 < 1 ∨ 3 < l.1) : linkE ref l = 24 := if_pos h
theorem link_6 {ref : ByteArray} {l : Lk} (h : ¬ (l.1 < 1 ∨ 3 < l.1)) (h2 : refOK l.2 = false) : linkE ref l = 6 := by unfold linkE; rw [if_neg h, h2]; rfl
theorem link_17 {ref : ByteArray} {l : Lk} (h : ¬ (l.1 < 1 ∨ 3 < l.1)) (h2 : refOK l.2 = true) (h3 : (l.2.toList == ref.toList) = true) : linkE ref l = 17 := by unfold linkE; rw [if_neg h, h2, h3]; rfl
theorem link_0 {ref : ByteArray} {l : Lk} (h : ¬ (l.1 < 1 ∨ 3 < l.1)) (h2 : refOK l.2 = true) (h3 : (l.2.toList == ref.toList) = false) : linkE ref l = 0 := by unfold linkE; rw [if_neg h, h2, h3]; rfl
theorem head_next {x : Nt} {k : Nat} (hk : k < 13) (h : headE x = headFrom x k (13 - k)) (hw : wrongK x k = false) : headE x = headFrom x (k + 1) (13 - (k + 1)) := by
  rw [h, show 13 - k = (13 - (k + 1)) + 1 by omega]
  simp [headFrom, hw]
theorem head_here {x : Nt} {k : Nat} (hk : k < 13) (h : headE x = headFrom x k (13 - k)) (hw : wrongK x k = true) (lx : List Lk) : noteE x lx = noK k := by
  have e : headE x = noK k := by
    rw [h, show 13 - k = (13 - (k + 1)) + 1 by omega]
    simp [headFrom, hw]
  unfold noteE
  rw [e, if_neg (by have := noK_range k; omega)]
theorem check_size : (Tryz.prog.info? 134).map (·.size) = some 2 := by kernel_rfl
theorem check_store (w : World) (n : Int) (f : Nat) : (storeVar 134 ⟨w.heap.size, 0, none⟩ (.agg #[.int .i64 n, .func (.func f) #[] #[]])).run Tryz.prog (w.alloc (.cells #[.int .i64 0, .nilFunc] 134)) = .ok () (w.alloc (.cells #[.int .i64 n, .func (.func f) #[] #[]] 134)) :=
  storeVar_new Tryz.prog w _ _ _ _ check_size rfl (by simp [Value.oneCell'])
theorem cellsK_load {W : World} {B k : Nat} (hk : k < 13) (hg : W.heap[B]? = some (.cells cellsK 134 (0, 0))) : W.cell? ⟨B, k * 2, none⟩ = some (.int .i64 (noK k)) ∧ W.cell? ⟨B, k * 2 + 1, none⟩ = some (.func (.func (fK k)) #[] #[]) := by
  rw [cell_of_row W B _ cellsK _ _ hg, cell_of_row W B _ cellsK _ _ hg]
  exact cellsK_at hk
set_option maxHeartbeats 1000000 in
theorem check_any (x : Nt) (hx : x.wf) (lx : List Lk) (w : World) (hp : PowT w) (hr : RdL w x.la x.ln lx) (hok : OkL lx) (hn : x.ln ≤ 5864062014805) :
    Calls Tryz.prog 30 #[.agg (noteC x)] w fun e w' => ∃ E : GErr, e = .returned E.val ∧ E.num = noteE x lx ∧ E.ok ∧ E.plain = true ∧ Below w.heap.size w w' := by
  obtain ⟨a0, a1, a2, a4, a5, a6, a19, a20, a21, a22, a23, a24, a25, a26⟩ := note_at x
  have HCK := Lib.hid (fun k (h : k < 13) w hp => checkK_any x hx (k := k) h w hp)
  have LN := Lib.hid (note_load x)
  have HE : Hid (headE x = headFrom x 0 (13 - 0)) := Lib.hid rfl
  have NE : Hid (noteE x lx = if headE x = 0 then linksE x.ref lx else headE x) := Lib.hid rfl
  have hlen := hr.1
  generalize x.la = LA at a26 hr
  generalize x.lc = LC at a26
  generalize hLNN : x.ln = LNN at a26 hr hn hlen
  clear hLNN
  generalize hNX : noteC x = NX at a0 a1 a2 a4 a5 a6 a19 a20 a21 a22 a23 a24 a25 a26 HCK LN ⊢
  clear hNX a1 a2 a4 a5 a6 a19 a20 a21 a22 a23 a24 a25
  obtain ⟨W1, hW1⟩ : ∃ W, W = w.alloc (.cells NX 26) := ⟨_, rfl⟩
  have hz1 : W1.heap.size = w.heap.size + 1 := by rw [hW1]; simp
  have hg1 : W1.heap[w.heap.size]? = some (.cells NX 26 (0, 0)) := by rw [hW1]; exact heap_alloc_new w _
  have hb1 : Below w.heap.size w W1 := by rw [hW1]; exact bl_alloc (bl_refl w) _
  obtain ⟨W2, hW2⟩ : ∃ W, W = W1.alloc (.cells cellsK 134) := ⟨_, rfl⟩
  have hz2 : W2.heap.size = w.heap.size + 2 := by rw [hW2]; simp [hz1]
  have hg2 : W2.heap[w.heap.size + 1]? = some (.cells cellsK 134 (0, 0)) := by rw [hW2, ← hz1]; exact heap_alloc_new W1 _
  have hg3 : W2.heap[w.heap.size]? = some (.cells NX 26 (0, 0)) := by rw [hW2]; exact (heap_alloc_old W1 _ (by omega)).trans hg1
  have hb2 : Below w.heap.size w W2 := by rw [hW2]; exact bl_alloc hb1 _
  have HB2 := Lib.hid hb2
  have HCH := Lib.hid ((checks_any W1).mono fun e w' h => (⟨h.1, h.2.symm⟩ : _ ∧ _ = w'))
  rw [hz1, ← hW2] at HCH
  have HROW := Lib.hid (fun (W : World) (hb : Below W2.heap.size W2 W) => (⟨(hb.block w.heap.size (by omega)).trans hg3, (hb.block (w.heap.size + 1) (by omega)).trans hg2⟩ : W.heap[w.heap.size]? = some (.cells NX 26 (0, 0)) ∧ W.heap[w.heap.size + 1]? = some (.cells cellsK 134 (0, 0))))
  have HPOW := Lib.hid (fun (W : World) (hb : Below W2.heap.size W2 W) => (hp.below (bl_then hb2 hb) : PowT W))
  have HRD := Lib.hid (fun (W : World) (hb : Below W2.heap.size W2 W) => (hr.below (bl_then hb2 hb) : RdL W LA LNN lx))
  have HOK := Lib.hid hok
  have HLN := Lib.hid hlen
  clear hp hr hok hg1 hb1 hg2 hg3 hb2 hlen hW2
  go_enter Tryz.func30, Tryz.ntmps30
  go_upto_region 1 with fail
  rw [← hW1]
  clear hW1 hz1
  go_wp2_with (go_at_call 62; with_reducible refine (HCH.out).mono ?_; rintro e w1 ⟨rfl, rfl⟩)
  go_loopg [9] 13 (fun g vi wr => ∃ k : Nat, vi = .int .i64 k ∧ k ≤ 13 ∧ 13 - k ≤ g ∧ Hid (Below W2.heap.size W2 wr) ∧ Hid (headE x = headFrom x k (13 - k)))
  case atStart => exact ⟨0, rfl, by omega, by omega, Lib.hid (bl_refl W2), HE⟩
  case round =>
    clear HE
    obtain ⟨k, rfl, hk, hg, HB, HH⟩ := hrel
    by_cases hlt : k < 13
    · have hltz : (k : Int) < 13 := by omega
      obtain ⟨r0, r1⟩ := HROW.out _ HB.out
      obtain ⟨c0, c1⟩ := cellsK_load hlt r1
      have CK := Lib.hid (HCK.out k hlt)
      have EK := Lib.hid (enterK hlt)
      have HN := Lib.hid (head_next hlt HH.out)
      have HF := Lib.hid (fun h => head_here hlt HH.out h lx)
      have LW := Lib.hid (fun (o : Obj) => LN.out (wr.alloc o) w.heap.size _ ((heap_alloc_old wr o (by have := HB.out.size; omega)).trans r0))
      have HBA := Lib.hid (fun (o : Obj) => bl_alloc HB.out o)
      have NR := Lib.hid (noK_range k)
      have HPW := Lib.hid (fun (o : Obj) => (HPOW.out (wr.alloc o) (HB.out.alloc (by have := HB.out.size; omega) o) : PowT (wr.alloc o)))
      have HST := Lib.hid (check_store wr (noK k) (fK k))
      generalize wrongK x k = wk at CK HN HF
      generalize fK k = fk at c1 CK EK HST
      generalize noK k = nk at c0 HF HST NR
      clear r0 r1
      have ek := EK.out
      cases wk with
      | false =>
        have HN2 := Lib.hid (HN.out rfl)
        clear HF HN
        go_wp2_with (first | (refine wpList_load_known rfl 26 (.tmp 1) rfl ⟨w.heap.size, 0, none⟩ (.agg NX) rfl (LW.out _) ?_) | (refine wpList_store_plain rfl rfl 134 (.tmp 4) (.tmp 12) rfl ⟨wr.heap.size, 0, none⟩ (.agg #[.int .i64 nk, .func (.func fk) #[] #[]]) rfl rfl HST.out ?_) | (with_reducible refine (CK.out _ (HPW.out _)).mono ?_; rintro e w3 ⟨rfl, hb3⟩; have HB3 := Lib.hid (bl_then (HBA.out _) hb3); clear hb3))
        go_roundg (13 - (k + 1))
        case measure => omega
        case rel => exact ⟨k + 1, by go_num, by omega, by omega, HB3, HN2⟩
      | true =>
        have HF2 := Lib.hid (HF.out rfl)
        clear HF HN
        go_wp2_with (first | (refine wpList_load_known rfl 26 (.tmp 1) rfl ⟨w.heap.size, 0, none⟩ (.agg NX) rfl (LW.out _) ?_) | (refine wpList_store_plain rfl rfl 134 (.tmp 4) (.tmp 12) rfl ⟨wr.heap.size, 0, none⟩ (.agg #[.int .i64 nk, .func (.func fk) #[] #[]]) rfl rfl HST.out ?_) | (with_reducible refine (CK.out _ (HPW.out _)).mono ?_; rintro e w3 ⟨rfl, hb3⟩; have HB3 := Lib.hid (bl_then (HBA.out _) hb3); have cnk := bl_cell (a := ⟨wr.heap.size, 0, none⟩) (v := .int .i64 nk) hb3 (by simp); clear hb3))
        go_ret
        exact ⟨.notice _ nk, rfl, by rw [HF2.out]; rfl, .inr (by simp [GErr.num, NR.out]), rfl, bl_then HB2.out HB3.out⟩
    · have e : k = 13 := by omega
      subst e
      have hltz : ¬ ((13 : Nat) : Int) < 13 := by omega
      have h0 : headE x = 0 := HH.out
      have NE2 : Hid (noteE x lx = linksE x.ref (lx.drop 0)) := Lib.hid (by rw [NE.out, if_pos h0]; rfl)
      clear NE HH HCK h0 hk hg hlt
      obtain ⟨r0, r1⟩ := HROW.out _ HB.out
      have cl : wr.cell? ⟨w.heap.size, 26, none⟩ = some (.slice LA LNN LC) := by rw [cell_of_row wr _ _ NX _ _ r0]; exact a26
      clear r0 r1
      have HBX := HB
      go_wp2
      go_loopg [25] LNN (fun g vi wr => ∃ k : Nat, vi = .int .i64 k ∧ k ≤ LNN ∧ LNN - k ≤ g ∧ Hid (Below W2.heap.size W2 wr) ∧ Hid (noteE x lx = linksE x.ref (lx.drop k)))
      case atStart => exact ⟨0, rfl, by omega, by omega, HBX, NE2⟩
      case round =>
        clear NE2 HBX HB cl
        obtain ⟨k, rfl, hk, hg, HB, HH⟩ := hrel
        by_cases hlt : k < LNN
        · have hltz : (k : Int) < (LNN : Int) := by omega
          obtain ⟨ad, hla, hc1, hc2⟩ := (HRD.out _ HB.out).2 k hlt
          subst hla
          have hlk : k < lx.length := by have := HLN.out; omega
          have HLE := Lib.hid (HH.out.trans (linksE_at (ref := x.ref) hlk))
          have hlo := HOK.out k
          have HL := Lib.hid (load_link hc1 hc2)
          clear hc1 hc2 HH HRD hlk
          generalize lx.getD k lk0 = l at HLE hlo HL
          obtain ⟨lk, ls⟩ := l
          obtain ⟨hlo1, hlo2⟩ := hlo
          have hsz := HB.out.size
          have hr0 : wr.cell? ⟨w.heap.size, 0, none⟩ = some (.string x.ref) := by rw [cell_of_row wr _ _ NX _ _ (HROW.out _ HB.out).1]; exact a0
          have hlt2 : w.heap.size < wr.heap.size := by omega
          have BZ := Lib.hid (fun (o : Obj) => bl_then HB2.out (bl_alloc HB.out o))
          have BZ' := Lib.hid (fun (o : Obj) => bl_alloc HB.out o)
          by_cases h1 : lk < 1
          · have HQ : Hid (noteE x lx = 24) := Lib.hid (by rw [HLE.out, link_24 (.inl h1), if_neg (by decide)])
            clear HLE
            go_wp2_with (first | (refine wpList_load_known rfl 112 (.tmp 27) rfl _ _ rfl HL.out ?_))
            go_ret
            exact ⟨.notice _ 24, rfl, by rw [HQ.out]; rfl, .inr (by simp [GErr.num]), rfl, BZ.out _⟩
          · by_cases h3 : 3 < lk
            · have HQ : Hid (noteE x lx = 24) := Lib.hid (by rw [HLE.out, link_24 (.inr h3), if_neg (by decide)])
              clear HLE
              go_wp2_with (first | (refine wpList_load_known rfl 112 (.tmp 27) rfl _ _ rfl HL.out ?_))
              go_ret
              exact ⟨.notice _ 24, rfl, by rw [HQ.out]; rfl, .inr (by simp [GErr.num]), rfl, BZ.out _⟩
            · have hno : ¬ ((lk, ls).1 < 1 ∨ 3 < (lk, ls).1) := fun h => h.elim h1 h3
              have HRF := Lib.hid (fun w => reference_any ls hlo2 w)
              cases hro : refOK ls with
              | false =>
                have HQ : Hid (noteE x lx = 6) := Lib.hid (by rw [HLE.out, link_6 hno hro, if_neg (by decide)])
                rw [hro] at HRF
                clear HLE hro hno
                go_wp2_with (first | (refine wpList_load_known rfl 112 (.tmp 27) rfl _ _ rfl HL.out ?_) | (go_at_call 63; with_reducible refine (HRF.out _).mono ?_; rintro e w3 ⟨rfl, hb3⟩; have HB3 := Lib.hid (bl_then (BZ.out _) hb3); clear hb3))
                go_ret
                exact ⟨.notice _ 6, rfl, by rw [HQ.out]; rfl, .inr (by simp [GErr.num]), rfl, HB3.out⟩
              | true =>
                cases hsm : (ls.toList == x.ref.toList) with
                | true =>
                  have HQ : Hid (noteE x lx = 17) := Lib.hid (by rw [HLE.out, link_17 hno hro hsm, if_neg (by decide)])
                  rw [hro] at HRF
                  clear HLE hro hno
                  go_wp2_with (first | (refine wpList_load_known rfl 112 (.tmp 27) rfl _ _ rfl HL.out ?_) | (go_at_call 63; with_reducible refine (HRF.out _).mono ?_; rintro e w3 ⟨rfl, hb3⟩; have HB3 := Lib.hid (bl_then (BZ.out _) hb3); have cs1 := bl_cell (a := ⟨wr.heap.size, 1, none⟩) (v := .string ls) hb3 (by simp); have cr1 := bl_cell (a := ⟨w.heap.size, 0, none⟩) (v := .string x.ref) hb3 (al_cell hr0); clear hb3))
                  go_ret
                  exact ⟨.notice _ 17, rfl, by rw [HQ.out]; rfl, .inr (by simp [GErr.num]), rfl, HB3.out⟩
                | false =>
                  have HQ : Hid (noteE x lx = linksE x.ref (lx.drop (k + 1))) := Lib.hid (by rw [HLE.out, if_pos (link_0 hno hro hsm)])
                  rw [hro] at HRF
                  clear HLE hro hno
                  go_wp2_with (first | (refine wpList_load_known rfl 112 (.tmp 27) rfl _ _ rfl HL.out ?_) | (go_at_call 63; with_reducible refine (HRF.out _).mono ?_; rintro e w3 ⟨rfl, hb3⟩; have HB3 := Lib.hid (bl_then (BZ'.out _) hb3); have cs1 := bl_cell (a := ⟨wr.heap.size, 1, none⟩) (v := .string ls) hb3 (by simp); have cr1 := bl_cell (a := ⟨w.heap.size, 0, none⟩) (v := .string x.ref) hb3 (al_cell hr0); clear hb3))
                  go_roundg (LNN - (k + 1))
                  case measure => omega
                  case rel => exact ⟨k + 1, by go_num, by omega, by omega, HB3, HQ⟩
        · have e : k = LNN := by omega
          have hltz : ¬ (k : Int) < (LNN : Int) := by omega
          have HQ : Hid (noteE x lx = 0) := Lib.hid (by rw [HH.out, List.drop_eq_nil_of_le (by have := HLN.out; omega)]; rfl)
          have HZ := Lib.hid (bl_then HB2.out HB.out)
          clear HH
          go_wp2
          go_ret
          exact ⟨.nil, rfl, by rw [HQ.out]; rfl, .inl rfl, rfl, HZ.out⟩
end Go.Proofs.YtphabkaiheplpaaGreatDoor
