/- Joined texts of this proof: LawRests. -/
import Derived.Outline
import Derived.Test.YtphabkaiheplpaaGreatDoorRests36
import Derived.Test.YtphabkaiheplpaaGreatDoorRests48
/- custodylaw22.MatchRests answers true for whatever BICs, tolerance and script. -/
set_option linter.unusedVariables false
set_option linter.unusedSimpArgs false
set_option maxRecDepth 100000
namespace Go.Proofs.YtphabkaiheplpaaGreatDoor
open Go.RowKit Go.Shelf Go.Maps

set_option maxHeartbeats 8000000 in
set_option maxRecDepth 1000000 in
theorem law_MatchRests (w : World) (A : Option Addr) (n c : Nat) (zs : List ByteArray) (tol : Int) (O : Option Addr) (m mc : Nat) (l : List Opr) (a : ScA w A n zs tol) (ho : OpsOk w O m l) :
    Calls Tryz.prog 4 #[.slice A n c, .int .i64 tol, .slice O m mc] w fun e w' => e = .returned (.bool true) ∧ Below w.heap.size w w' := by
  obtain ⟨i0, hi, hz0, hz1, hz2⟩ := Sp.info_of infoSd
  obtain ⟨i1, hj, hy0, hy1, hy2⟩ := Sp.info_of infoBo
  have HA := Lib.hid a
  have HO := Lib.hid ho
  have HM : Hid (m ≤ 606700000000 - 1) := Lib.hid (by have := ho.2.1; omega)
  have HN := Lib.hid (new_any A n c zs tol w a.hr a.hn)
  have HWK := Lib.hid (fun W (h : Below w.heap.size w W) => works_any W (a.pw.below h))
  clear a ho
  go_enter Tryz.func4, Tryz.ntmps4
  go_upto_region 2 with (go_at_call 9; (with_reducible refine HN.out.mono ?_); rintro e w1 ⟨b, rfl, hk, hb⟩; have HK1 := Lib.hid hk; have HB1 := Lib.hid hb; clear hk hb)
  clear HN
  go_upto_if 25 with (go_at_call 8; go_loud ((with_reducible refine (HWK.out w1 HB1.out).mono ?_); rintro e w2 ⟨rfl, hb⟩; have HB2 := Lib.hid hb; clear hb))
  refine wp_cond_false rfl (wp_skip ?_)
  have SC0 : Hid (ScI w w2 (fun i => w.heap.size ≤ i ∧ i < w1.heap.size) b zs tol [] [] (.slice none 0 0) (.slice none 0 0) [] 0) := Lib.hid { bk := HK1.out.grow HB2.out, st := StOk.of_bk HK1.out, ri := RestI.nil zs tol, low := bl_then HB1.out HB2.out, ge := fun i h => h.1, pf := pow_free HA.out.pw, len := rfl, le := Nat.le_refl _, lp := Nat.le_refl _, r8 := ow_nil _ _ _ _, r9 := ow_nil _ _ _ _, n8 := (fun g hg => by cases hg), n9 := (fun g hg => by cases hg), tw := (fun j hj => absurd hj (Nat.not_lt_zero _)), so := (fun j hj => absurd hj (Nat.not_lt_zero _)) }
  clear HK1 HB1 HB2 HWK
  generalize (fun i => w.heap.size ≤ i ∧ i < w1.heap.size) = F0 at SC0
  go_wp2
  go_loopg [8, 9, 10, 11, 12, 13, 14, 15, 16] m (fun g v8 v9 v10 v11 v12 v13 v14 v15 v16 wr => ∃ (k : Nat) (F : Nat → Prop) (es : List Ent) (ps : List Pr) (sl : List (Int × Nt)), v10 = .int .i64 k ∧ k ≤ m ∧ m - k ≤ g ∧ Hid (ScI w wr F b zs tol es ps v8 v9 sl k))
  case atStart => exact ⟨0, F0, [], [], [], rfl, by omega, by omega, SC0⟩
  case round =>
    clear SC0
    obtain ⟨k, F, es, ps, sl, rfl, hk, hg, SC⟩ := hrel
    by_cases hlt : k < m
    · have hltz : (k : Int) < (m : Int) := by omega
      have hk63 : (k : Int) + 1 ≤ 2000000000000 := by have := HM.out; omega
      have HK : Hid (k + 1 ≤ 606700000000) := Lib.hid (by have := HM.out; omega)
      obtain ⟨ad, hO, hld⟩ := load_op HO.out hlt
      have hop := (HO.out.2.2 k hlt).1
      subst hO
      generalize l.getD k opr0 = o at hld hop
      have HOK := Lib.hid hop
      have LD := Lib.hid (hld wr SC.out.low)
      have ST := Lib.hid (fun (Z : Array Value) (hz : Z.size = 32) => store_op o Z hz (wr.alloc (.cells Z 46)) wr.heap.size 46 (heap_alloc_new wr _))
      have HLS := Lib.hid (fun W g h => load_opside o W g 46 h)
      have KC := Lib.hid (show (opC o).toArray[1]? = some (.int .i64 o.kind) ∧ (opC o).toArray[30]? = some (.int .i64 o.n) ∧ (opC o).toArray[31]? = some (.string o.ref) from ⟨rfl, rfl, rfl⟩)
      have HPK := Lib.hid (pick_any o.kind hop.kind)
      generalize (opC o).toArray = CO at LD ST HLS KC
      clear hld hop
      obtain ⟨S8, c8, e8⟩ := ow_slice SC.out.r8
      obtain ⟨S9, c9, e9⟩ := ow_slice SC.out.r9
      subst e8 e9
      go_upto_region 10 with (first | (refine wpList_load_known rfl 46 (.tmp 34) rfl (ad.add (k * 32)) (.agg CO) rfl LD.out ?_) | (refine wpList_store_plain rfl rfl 46 (.tmp 11) (.tmp 35) rfl ⟨wr.heap.size, 0, none⟩ (.agg CO) rfl rfl (ST.out _ rfl) ?_))
      clear LD ST
      refine block_made (motive := fun W => Code.wp _ _ _ _ W) ?_
      intro W3 hb3 hg3
      have HX := Lib.hid hg3
      have HNF : Hid (¬ F wr.heap.size) := Lib.hid (fun hf => by have := bk_lt SC.out.bk _ hf; omega)
      have SC3 := Lib.hid (SC.out.grow hb3)
      clear SC hb3 hg3
      generalize wr.heap.size = N at HX HNF ⊢
      have k1 : W3.cell? ⟨N, 1, none⟩ = some (.int .i64 o.kind) := (cell_of_row W3 N 1 _ _ _ HX.out).trans KC.out.1
      generalize hpp : pickP o.kind = pp at HPK
      cases hpn : (pp != 1) with
      | true =>
        go_upto_region 11 with (go_at_call 12; (with_reducible refine (HPK.out _).mono ?_); rintro e w4 ⟨rfl, rfl⟩)
        clear k1 HPK hpp hpn KC
        have HAD := Lib.hid (sc_add SC3.out HA.out HOK.out HK.out)
        have LS := Lib.hid (HLS.out _ N HX.out)
        obtain ⟨SX, hsx⟩ : ∃ S, S = sideC o.p o.x := ⟨_, rfl⟩
        have HSX := Lib.hid hsx
        rw [← hsx] at HAD LS
        clear hsx
        go_upto_region 12 with (first | (refine wpList_load_known rfl 28 (.tmp 42) rfl ⟨N, 2, none⟩ (.agg SX) rfl LS.out ?_) | (go_at_call 10; (with_reducible refine HAD.out.mono ?_); rintro e w5 ⟨E, N1, P1, rfl, hcase⟩; have HCS := Lib.hid hcase; clear hcase))
        clear HAD LS
        rcases HCS.out with ⟨hE, hs⟩ | ⟨hE, hN, la, lc, hbk, hfr⟩
        · have he : ∀ w, (binOp .eql 36 E.val .nilIface).run Tryz.prog w = .ok (.bool false) w := fun w => by rw [eql_nil_err, hE]
          have hgd := fun x c w => guard_err E x c w
          have SC5 := Lib.hid hs
          generalize E.val = ev at he hgd ⊢
          clear hE hs HCS
          go_upto_region 20 with fail
          clear he hgd
          have HRS := Lib.hid (sc_rests (c := c) SC5.out HA.out (by have := HK.out; omega))
          go_wp2_with (go_at_call 15; (with_reducible refine HRS.out.mono ?_); rintro e w6 ⟨rfl, hs⟩; have SC6 := Lib.hid hs; clear hs)
          go_roundg (m - (k + 1))
          case measure => omega
          case rel => exact ⟨k + 1, F, es, ps, sl, by go_num, by omega, by omega, Lib.hid (SC6.out.more (Nat.le_succ k))⟩
        · subst hE hN
          have HBK := Lib.hid hbk
          have HFR := Lib.hid hfr
          clear hbk hfr HCS
          have he : ∀ w, (binOp .eql 36 GErr.nil.val .nilIface).run Tryz.prog w = .ok (.bool true) w := fun w => eql_nil_err .nil w
          have hgd := fun x c w => guard_err .nil x c w
          have hne : ((es.length : Int) != (sl.length : Int)) = false := by rw [SC3.out.len]; simp
          generalize GErr.nil.val = ev at he hgd ⊢
          go_upto_region 15 with fail
          clear he hgd hne
          have HX5 : Hid (w5.heap[N]? = some (.cells CO 46 (0, 0))) := Lib.hid ((HFR.out.block N (Array.getElem?_eq_some_iff.1 HX.out).1 HNF.out).trans HX.out)
          have LS5 := Lib.hid (HLS.out w5 N HX5.out)
          rw [← HSX.out] at LS5
          have HSL : Hid (∀ w, (Instr.buildSlice 43 1 #[(0, .agg SX)]).run Tryz.prog w = .ok (.slice (some ⟨w.heap.size, 0, none⟩) 1 1) (w.alloc (.cells SX 28))) := Lib.hid (fun w => by rw [HSX.out]; exact slice_side o.p o.x w)
          have HSD : Hid ((sdC (o.p, o.x)).toArray = SX) := Lib.hid (by rw [HSX.out]; simp [sdC])
          have HL5 := Lib.hid (SC3.out.frLow HFR.out)
          have H85 := Lib.hid (ow_fr SC3.out.r8 HFR.out SC3.out.n8)
          have H95 := Lib.hid (ow_fr SC3.out.r9 HFR.out SC3.out.n9)
          have HN8 := Lib.hid (SC3.out.new (W := w5) (fun g hg => row_lt SC3.out.r8 hg) SC3.out.n8)
          have HN9 := Lib.hid (SC3.out.new (W := w5) (fun g hg => row_lt SC3.out.r9 hg) SC3.out.n9)
          have hslm : sl.length ≤ k := by have h1 := SC3.out.len; have h2 := SC3.out.le; omega
          have HSM := Lib.hid hslm
          clear hslm
          go_upto_region 16 with (first | (refine wpList_load_known rfl 28 (.tmp 59) rfl ⟨N, 2, none⟩ (.agg SX) rfl LS5.out ?_) | (refine wpList_buildSlice_known rfl 43 1 #[(0, .tmp 60)] rfl #[(0, .agg SX)] _ rfl (HSL.out _) ?_) | (at_builtin; go_loud (have hb6 := bl_alloc (bl_refl w5) (.cells SX 28); have HL6 := Lib.hid (bl_then HL5.out hb6); have H86 := Lib.hid (ow_none H85.out (gb_below hb6)); have H96 := Lib.hid (ow_none H95.out (gb_below hb6)); have HB6 := Lib.hid (HBK.out.grow hb6); have HC6 : Hid ((w5.alloc (.cells SX 28)).heap[w5.heap.size]? = some (.cells (sdC (o.p, o.x)).toArray 28 (0, 0))) := Lib.hid (by rw [HSD.out]; exact heap_alloc_new w5 _); have HZ6 := Lib.hid hb6.size; clear hb6 H85 H95 HL5; generalize w5.alloc (.cells SX 28) = W6 at HL6 H86 H96 HB6 HC6 HZ6 ⊢; generalize hN6 : w5.heap.size = N6 at HC6 ⊢; clear hN6; refine wpList_append_new rfl (.tmp 58) (.tmp 61) 43 rfl w.heap.size 28 i0 (.agg (sideC 0 nt0)) 28 192 Tryz.underlying43 hi hz0 hz1 hz2 rfl (by decide) (.slice S8 sl.length c8) sl.length (sl.flatMap sdC) rfl H86.out ⟨N6, 0, none⟩ 1 1 (sdC (o.p, o.x)) rfl rfl (cells_arr HC6.out) (sdC_one _) (by have := HSM.out; have := HM.out; unfold maxLen; omega) (by have := HSM.out; have := HM.out; omega) HL6.out.size (by decide) ?_; intro v8' W7 hown hgrow hnew; have HO8 := Lib.hid hown; have HL7 := Lib.hid (below_grown HL6.out H86.out hgrow HL6.out.size); have H97 := Lib.hid (ow_row H96.out H86.out (by decide) hgrow); have HB7 := Lib.hid (BkI.rowGrown HB6.out hgrow HN8.out); have HM8 := Lib.hid (notF_new (bk_lt HBK.out) HZ6.out hnew HN8.out); have HZ7 := Lib.hid (Nat.le_trans HZ6.out hgrow.size); clear hown hgrow hnew)))
          obtain ⟨S8b, c8b, e8b⟩ := ow_slice HO8.out
          subst e8b
          have HEM : Hid (es.length ≤ k) := Lib.hid SC3.out.le
          go_upto_region 20 with (at_builtin; go_loud (have hb8 := bl_alloc (bl_refl W7) (.cells #[.bool false] 4); have HL8 := Lib.hid (bl_then HL7.out hb8); have H88 := Lib.hid (ow_none HO8.out (gb_below hb8)); have H98 := Lib.hid (ow_none H97.out (gb_below hb8)); have HB8 := Lib.hid (HB7.out.grow hb8); have HC8 := Lib.hid (heap_alloc_new W7 (.cells #[.bool false] 4)); have HZ8 := Lib.hid (Nat.le_trans HZ7.out hb8.size); clear hb8 HL7 HO8 H97 HB7; generalize W7.alloc (.cells #[.bool false] 4) = W8 at HL8 H88 H98 HB8 HC8 HZ8 ⊢; generalize hN8 : W7.heap.size = N8 at HC8 ⊢; clear hN8; refine wpList_append_new rfl (.tmp 63) (.tmp 64) 44 rfl w.heap.size 4 i1 (.bool false) 1 1 Tryz.underlying44 hj hy0 hy1 hy2 rfl (by decide) (.slice S9 es.length c9) es.length (flags es.length (goneF es)) rfl H98.out ⟨N8, 0, none⟩ 1 1 [.bool false] rfl rfl (cells_one' HC8.out) (by simp [Value.oneCell']) (by have := HEM.out; have := HM.out; unfold maxLen; omega) (by have := HEM.out; have := HM.out; omega) HL8.out.size (by decide) ?_; intro v9' W9 hown hgrow hnew; have HL9 := Lib.hid (below_grown HL8.out H98.out hgrow HL8.out.size); have H89 := Lib.hid (ow_row H88.out H98.out (by decide) hgrow); have HB9 := Lib.hid (BkI.rowGrown HB8.out hgrow HN9.out); have HM9 := Lib.hid (notF_new (bk_lt HBK.out) HZ8.out hnew HN9.out); have HO9 := Lib.hid hown; clear hown hgrow hnew))
          have SC9 := Lib.hid (SC3.out.added (e := entN o.p o.x o.lx la lc) (p := o.p) (x := o.x) HB9.out HFR.out HA.out.pw HL9.out rfl rfl ⟨rfl, la, lc, rfl⟩ HOK.out.p HOK.out.x H89.out HO9.out HM8.out HM9.out)
          have HRS := Lib.hid (sc_rests (c := c) SC9.out HA.out (by have := HK.out; omega))
          clear HB9 HFR HL9 H89 HO9 HM8 HM9 HBK HX5 LS5 HSL HSD HN8 HN9 HSM HEM HZ7
          go_wp2_with (go_at_call 15; (with_reducible refine HRS.out.mono ?_); rintro e w6 ⟨rfl, hs⟩; have SC6 := Lib.hid hs; clear hs)
          go_roundg (m - (k + 1))
          case measure => omega
          case rel => exact ⟨k + 1, _, _, _, _, by go_num, by omega, by omega, SC6⟩
      | false =>
        go_upto_region 17 with (go_at_call 12; (with_reducible refine (HPK.out _).mono ?_); rintro e w4 ⟨rfl, rfl⟩)
        have k30 := (cell_of_row _ N 30 _ _ _ HX.out).trans KC.out.2.1
        have k31 := (cell_of_row _ N 31 _ _ _ HX.out).trans KC.out.2.2
        clear k1 HPK hpp hpn KC
        have HCN := Lib.hid (sc_cancel SC3.out HA.out HOK.out.n HOK.out.ref (by have := HK.out; omega))
        generalize o.n = on at k30 HCN
        generalize o.ref = oref at k31 HCN
        go_upto_region 18 with (go_at_call 13; (with_reducible refine HCN.out.mono ?_); rintro e w5 ⟨E, d, rfl, hcase⟩; have HCS := Lib.hid hcase; clear hcase)
        clear HCN k30 k31
        rcases HCS.out with ⟨hE, hs⟩ | ⟨hE, hd, F', es', ps', hs⟩ | ⟨hE, hd, i, hi', hbk, hfr⟩
        · have he : ∀ w, (binOp .eql 36 E.val .nilIface).run Tryz.prog w = .ok (.bool false) w := fun w => by rw [eql_nil_err, hE]
          have hgd := fun x c w => guard_err E x c w
          have SC5 := Lib.hid hs
          generalize E.val = ev at he hgd ⊢
          clear hE hs HCS
          go_upto_region 20 with fail
          clear he hgd
          have HRS := Lib.hid (sc_rests (c := c) SC5.out HA.out (by have := HK.out; omega))
          go_wp2_with (go_at_call 15; (with_reducible refine HRS.out.mono ?_); rintro e w6 ⟨rfl, hs⟩; have SC6 := Lib.hid hs; clear hs)
          go_roundg (m - (k + 1))
          case measure => omega
          case rel => exact ⟨k + 1, F, es, ps, sl, by go_num, by omega, by omega, Lib.hid (SC6.out.more (Nat.le_succ k))⟩
        · subst hE hd
          have he : ∀ w, (binOp .eql 36 GErr.nil.val .nilIface).run Tryz.prog w = .ok (.bool true) w := fun w => eql_nil_err .nil w
          have hgd := fun x c w => guard_err .nil x c w
          have SC5 := Lib.hid hs
          generalize GErr.nil.val = ev at he hgd ⊢
          clear hs HCS
          go_upto_region 20 with fail
          clear he hgd
          have HRS := Lib.hid (sc_rests (c := c) SC5.out HA.out (by have := HK.out; omega))
          go_wp2_with (go_at_call 15; (with_reducible refine HRS.out.mono ?_); rintro e w6 ⟨rfl, hs⟩; have SC6 := Lib.hid hs; clear hs)
          go_roundg (m - (k + 1))
          case measure => omega
          case rel => exact ⟨k + 1, F', es', ps', sl, by go_num, by omega, by omega, Lib.hid (SC6.out.more (Nat.le_succ k))⟩
        · subst hE hd
          have he : ∀ w, (binOp .eql 36 GErr.nil.val .nilIface).run Tryz.prog w = .ok (.bool true) w := fun w => eql_nil_err .nil w
          have hgd := fun x c w => guard_err .nil x c w
          have HLO := Lib.hid (sc_lost SC3.out HA.out (by have := HK.out; omega) hi' hbk hfr)
          generalize GErr.nil.val = ev at he hgd ⊢
          clear hbk hfr HCS
          go_upto_region 20 with (go_at_call 14; (with_reducible refine HLO.out.mono ?_); rintro e w6 ⟨v9', rfl, hs⟩; have SC5 := Lib.hid hs; clear hs)
          clear he hgd HLO
          have HRS := Lib.hid (sc_rests (c := c) SC5.out HA.out (by have := HK.out; omega))
          go_wp2_with (go_at_call 15; (with_reducible refine HRS.out.mono ?_); rintro e w6 ⟨rfl, hs⟩; have SC6 := Lib.hid hs; clear hs)
          go_roundg (m - (k + 1))
          case measure => omega
          case rel => exact ⟨k + 1, _, _, _, _, by go_num, by omega, by omega, Lib.hid (SC6.out.more (Nat.le_succ k))⟩
    · have e0 : k = m := by omega
      subst e0
      have hltz : ¬ ((k : Int) < (k : Int)) := by omega
      go_wp2
      go_ret
      exact ⟨rfl, SC.out.low⟩
end Go.Proofs.YtphabkaiheplpaaGreatDoor
