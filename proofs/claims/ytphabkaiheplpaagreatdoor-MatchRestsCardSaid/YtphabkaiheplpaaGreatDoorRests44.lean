/- Joined texts of this proof: RsY. -/
import Derived.Laws.OwnMore
import Derived.Outline
import Derived.Test.YtphabkaiheplpaaGreatDoorRests43
/- custodylaw22.rests answers true of a book in order. -/
set_option linter.unusedVariables false
set_option linter.unusedSimpArgs false
set_option maxRecDepth 100000
namespace Go.Proofs.YtphabkaiheplpaaGreatDoor
open Go.RowKit Go.Shelf Go.Maps

theorem bl_none {W W1 : World} (h : W.grownBy W1 none) : Below W.heap.size W W1 := ⟨h.os, h.tape, h.output, h.size, fun i hi => h.block i hi (by simp)⟩
/-- A new row of noughts. -/
theorem make_ints (W : World) (n : Nat) (hn : n ≤ 1000000000000) : ∃ w', (Instr.makeSlice 94 (.int .i64 (n : Int)) (.int .i64 (n : Int))).run Tryz.prog W = .ok (.slice (some ⟨W.heap.size, 0, none⟩) n n) w' ∧ w'.ownsRow 0 3 1 (.slice (some ⟨W.heap.size, 0, none⟩) n n) n (times n fun _ => 0) ∧ Below W.heap.size W w' := by
  obtain ⟨i0, hi, hz0, hz1, hz2⟩ := Sp.info_of Sp.A_infoI
  obtain ⟨w', h1, h2, h3⟩ := run_make_full (P := Tryz.prog) W 0 94 3 i0 (.int .i64 0) 1 Tryz.underlying94 hi hz0 hz1   .i64 .i64 n (by rw [hz2]; omega) (by unfold maxLen; omega) (Nat.zero_le _)
  refine ⟨w', h1, ?_, bl_none h3⟩
  rw [Nat.mul_one] at h2
  have e : (madeCells (Value.int .i64 0).cells n).toList = times n fun _ => 0 := by
    show (madeCells #[Value.int .i64 0] n).toList = _
    rw [toList_madeCells_one]
    unfold times
    rw [List.map_const']
    simp
  rw [e] at h2
  exact h2
theorem cnt_nil (n : Nat) : times n (cntL [] []) = times n fun _ => 0 := times_congr (fun i _ => rfl)
theorem cnt_snoc (L : List Nat) (x i : Nat) : cntL (L ++ [x]) [] i = if i = x then cntL L [] x + 1 else cntL L [] i := by
  unfold cntL
  rw [List.count_append]
  by_cases h : i = x
  · subst h; rw [if_pos rfl]; simp
  · rw [if_neg h]
    have : List.count i [x] = 0 := List.count_eq_zero.2 (by simpa using h)
    omega
theorem nat_row {W : World} {base n c : Nat} {og : Nat} {L : List Nat} (h : W.ownsRow base 3 1 (.slice (some ⟨og, 0, none⟩) n c) n (L.map natV)) (hn : L.length = n) {k : Nat} (hk : k < n) : W.cell? ⟨og, k, none⟩ = some (.int .i64 ((L.getD k 0 : Nat) : Int)) := by
  have := h.cellAt k (by omega)
  rw [this, List.getElem?_map, List.getD_eq_getElem?_getD, List.getElem?_eq_getElem (by omega)]
  rfl
theorem getD_mem_nat {L : List Nat} {k : Nat} (h : k < L.length) : L.getD k 0 ∈ L := by
  rw [List.getD_eq_getElem?_getD, List.getElem?_eq_getElem h]; exact List.getElem_mem h
theorem fit_twin {zs : List ByteArray} {tol : Int} {s t : Int × Nt} {e f : Ent} (hs : e.p = s.1 ∧ ∃ la lc, e.x = { s.2 with la := la, lc := lc }) (ht : f.p = t.1 ∧ ∃ la lc, f.x = { t.2 with la := la, lc := lc }) : fitE s.1 t.1 s.2 t.2 zs tol = fitAt zs tol e f := by
  obtain ⟨h1, la, lc, h2⟩ := hs
  obtain ⟨h3, la2, lc2, h4⟩ := ht
  unfold fitAt
  rw [h1, h2, h3, h4]
  rfl
set_option maxHeartbeats 8000000 in
set_option maxRecDepth 1000000 in
theorem rests_any {F : Nat → Prop} {W : World} {b : Nat} {zs : List ByteArray} {tol : Int} {es : List Ent} {ps : List Pr} {S G A : Option Addr} {n cs cg nA cA : Nat} {sl : List (Int × Nt)}
    (hB : BkI F W b zs tol es ps) (hst : StOk zs es ps) (HI : RestI zs tol es ps) (hen : es.length = n) (hpn : ps.length ≤ 1000000000000) (hn : n ≤ 1000000000000)
    (hs : W.ownsRow 0 28 28 (.slice S n cs) n (sl.flatMap sdC)) (hsl : sl.length = n) (hg : W.ownsRow 0 4 1 (.slice G n cg) n (flags n fun k => (es.getD k ent0).gone))
    (htw : ∀ k, k < n → (es.getD k ent0).p = (sl.getD k (0, nt0)).1 ∧ ∃ la lc, (es.getD k ent0).x = { (sl.getD k (0, nt0)).2 with la := la, lc := lc }) (hso : ∀ k, k < n → I64 (sl.getD k (0, nt0)).1 ∧ (sl.getD k (0, nt0)).2.wf)
    (hr : RdT W A nA zs) (hsh : Short zs) (hnA : nA ≤ 140737488351232) (ht : I64 tol) (hpw : PowT W) :
    Calls Tryz.prog 15 #[.pointer (some ⟨b, 0, none⟩), .slice A nA cA, .int .i64 tol, .slice S n cs, .slice G n cg] W fun e w' => e = .returned (.bool true) ∧ Below W.heap.size W w' := by
  obtain ⟨w1, mk, hown, hb1⟩ := make_ints W n hn
  have htb : W.heap.size < w1.heap.size := row_lt hown rfl
  have HB1 := Lib.hid hb1
  have HT1 := Lib.hid hown
  have HTB := Lib.hid htb
  have HBK := Lib.hid hB
  have HS := Lib.hid hs
  have HG := Lib.hid hg
  have HSL := Lib.hid hsl
  have HN := Lib.hid hn
  have HPN := Lib.hid hpn
  have HEN := Lib.hid hen
  have HOP := Lib.hid (open_any (hB.grow hb1) (by omega))
  have HF : Hid (∀ W', Below W.heap.size W W' → ∀ a b, a < n → b < n → Calls Tryz.prog 7 #[.agg (sideC (sl.getD a (0, nt0)).1 (sl.getD a (0, nt0)).2), .agg (sideC (sl.getD b (0, nt0)).1 (sl.getD b (0, nt0)).2), .slice A nA cA, .int .i64 tol] W' fun e w' => e = .returned (.tuple #[.int .i64 (fitE (sl.getD a (0, nt0)).1 (sl.getD b (0, nt0)).1 (sl.getD a (0, nt0)).2 (sl.getD b (0, nt0)).2 zs tol).1, .bool (fitE (sl.getD a (0, nt0)).1 (sl.getD b (0, nt0)).1 (sl.getD a (0, nt0)).2 (sl.getD b (0, nt0)).2 zs tol).2]) ∧ Below W'.heap.size W' w') := Lib.hid (fun W' hb a b ha hb' => fit_any _ _ _ _ A nA cA zs tol W' (hso a ha).1 (hso b hb').1 (hso a ha).2 (hso b hb').2 ht (hr.below hb) hsh hnA (hpw.below hb))
  have HLM : Hid (∀ x ∈ openL es, x < n) := Lib.hid (fun x hx => by have := (openL_mem.1 hx).1; omega)
  have HLS := Lib.hid (openL_sorted es)
  have HLL := Lib.hid (openL_le es)
  have HNF : Hid (∀ x ∈ openL es, ∀ y ∈ openL es, (fitE (sl.getD x (0, nt0)).1 (sl.getD y (0, nt0)).1 (sl.getD x (0, nt0)).2 (sl.getD y (0, nt0)).2 zs tol).2 = false) := Lib.hid (fun x hx y hy => by
    have h1 := openL_mem.1 hx
    have h2 := openL_mem.1 hy
    rw [fit_twin (htw x (by omega)) (htw y (by omega))]
    exact HI.nofit x y h1.1 h2.1 h1.2 h2.2)
  have HQ : Hid (∀ q ∈ stand ps, q.d < n ∧ q.r < n ∧ q.d ≠ q.r ∧ fitE (sl.getD q.d (0, nt0)).1 (sl.getD q.r (0, nt0)).1 (sl.getD q.d (0, nt0)).2 (sl.getD q.r (0, nt0)).2 zs tol = (q.a, true)) := Lib.hid (fun q hq => by
    obtain ⟨m, hm, rfl, hgm⟩ := stand_mem hq
    have hp := hst.prs _ (pr_mem hm)
    have h1 := HI.std m hm hgm
    refine ⟨by omega, by omega, fun e => ?_, ?_⟩
    · have := dr_ne h1.2.2.2.2
      rw [e] at this
      exact this rfl
    · rw [fit_twin (htw _ (by omega)) (htw _ (by omega))]
      exact h1.2.2.2.2)
  have HQL : Hid ((stand ps).length ≤ 1000000000000) := Lib.hid (by have := stand_le ps; omega)
  have HC : Hid (∀ k, k < n → cntL (openL es) (stand ps) k = if (es.getD k ent0).gone then 0 else 1) := Lib.hid (fun k hk => rest_count HI hst (by omega))
  have HPA := Lib.hid (fun w2 (h : Below W.heap.size W w2) => pairs_any (hB.grow h) hpn)
  clear hB hst HI hen hpn hn hs hsl hg htw hso hr hsh hnA ht hpw hown hb1 htb
  go_enter Tryz.func15, Tryz.ntmps15
  go_upto_region 2 with fail
  clear mk
  go_upto_region 3 with (go_at_call 36; (with_reducible refine HOP.out.mono ?_); rintro e w2 ⟨vo, rfl, hown, hb⟩; obtain ⟨O1, co, rfl⟩ := ow_slice hown; have HSZ := Lib.hid hb.size; have HB2 := Lib.hid (bl_then HB1.out hb); have HT2 := Lib.hid (ow_none HT1.out (gb_below hb)); have HO2 := Lib.hid (own_low hown (show W.heap.size + 1 ≤ w1.heap.size from HTB.out)); clear hown hb)
  clear HB1 HT1 HOP
  go_upto_region 4 with (go_at_call 11; (with_reducible refine (HPA.out w2 HB2.out).mono ?_); rintro e w3 ⟨vp, rfl, hown, hb⟩; obtain ⟨P1, cp, rfl⟩ := ow_slice hown; have HB3 := Lib.hid (bl_then HB2.out hb); have HT3 := Lib.hid (ow_none HT2.out (gb_below hb)); have HO3 := Lib.hid (ow_none HO2.out (gb_below hb)); have HP3 := Lib.hid (own_low hown (show W.heap.size + 1 ≤ w2.heap.size from Nat.le_trans HTB.out HSZ.out)); clear hown hb)
  clear HB2 HT2 HO2 HPA
  generalize openL es = L at HLM HLS HLL HNF HC HO3 ⊢
  generalize stand ps = Q at HQ HQL HC HP3 ⊢
  obtain ⟨tb, htbe⟩ : ∃ tb, tb = W.heap.size := ⟨_, rfl⟩
  have HTBE := Lib.hid htbe
  rw [← htbe] at HT3 HO3 HP3 ⊢
  clear htbe
  have hLL : L.length ≤ 1000000000000 := by have := HLL.out; have := HEN.out; have := HN.out; omega
  have HLB := Lib.hid hLL
  clear hLL HLL HTB
  go_wp2
  rename_i hK16
  go_loopg [14, 15, 16, 17] L.length (fun g v14 v15 v16 v17 wr => ∃ k : Nat, v14 = .int .i64 k ∧ k ≤ L.length ∧ L.length - k ≤ g ∧ Hid (Below W.heap.size W wr) ∧ Hid (wr.ownsRow (tb + 1) 3 1 (.slice O1 L.length co) L.length (L.map natV)) ∧ Hid (wr.ownsRow (tb + 1) 76 3 (.slice P1 Q.length cp) Q.length (Q.flatMap apC)) ∧ Hid (wr.ownsRow 0 3 1 (.slice (some ⟨tb, 0, none⟩) n n) n (times n (cntL (L.take k) []))))
  case atStart => exact ⟨0, rfl, by omega, by omega, HB3, HO3, HP3, HT3⟩
  case round =>
    obtain ⟨k, rfl, hk, hg, HB, HOR, HPR, HTR⟩ := hrel
    by_cases hlt : k < L.length
    · have hltz : (k : Int) < (L.length : Int) := by omega
      have hk63 : (k : Int) + 1 ≤ 2000000000000 := by have := HLB.out; omega
      obtain ⟨og, rfl⟩ := own_addr HOR.out (by omega)
      have cL := nat_row HOR.out rfl hlt
      have hxn : L.getD k 0 < n := HLM.out _ (getD_mem_nat hlt)
      have HXM := Lib.hid (getD_mem_nat hlt)
      have HTK : Hid (L.take (k + 1) = L.take k ++ [L.getD k 0]) := Lib.hid (by rw [List.take_add_one, List.getD_eq_getElem?_getD, List.getElem?_eq_getElem hlt]; rfl)
      have HPV : Hid (∀ j, k = j + 1 → j < L.length ∧ L.getD j 0 < L.getD k 0) := Lib.hid (fun j hj => by
        have h1 := List.pairwise_iff_getElem.1 HLS.out j k (by omega) hlt (by omega)
        refine ⟨by omega, ?_⟩
        rw [List.getD_eq_getElem?_getD, List.getD_eq_getElem?_getD, List.getElem?_eq_getElem hlt, List.getElem?_eq_getElem (by omega : j < L.length)]
        exact h1)
      have HCL : Hid (∀ i, cntL (L.take k) [] i ≤ 1000000000000) := Lib.hid (fun i => by
        unfold cntL
        have h1 : (L.take k).count i ≤ (L.take k).length := List.count_le_length
        have h2 := HLB.out
        rw [List.length_take] at h1
        simp
        omega)
      obtain ⟨x, hx⟩ : ∃ x, x = L.getD k 0 := ⟨_, rfl⟩
      rw [← hx] at cL hxn HXM HTK HPV
      have HXE := Lib.hid hx
      clear hx
      have HXN := Lib.hid hxn
      have x1 : ¬ ((x : Int) < 0) := by omega
      have x2 : (x : Int) < (n : Int) := by omega
      have x3 : ¬ ((n : Int) ≤ (x : Int)) := by omega
      clear hxn
      go_upto_region 7 with fail
      go_cut [65] from 30 to 110 (fun v wx => v = .bool false ∧ ∃ nq, wx = wr.drewN nq)
      case first =>
        rcases Nat.eq_zero_or_pos k with h0 | h0
        · have y1 : decide ((0 : Int) < (k : Int)) = false := decide_eq_false (by omega)
          have y2 : decide (0 < k) = false := decide_eq_false (by omega)
          clear hk63 h0
          go_quiet (fail)
          go_wp2
          go_meet
          exact ⟨rfl, _, rfl⟩
        · obtain ⟨j, hj⟩ : ∃ j, k = j + 1 := ⟨k - 1, by omega⟩
          obtain ⟨hjl, hlt2⟩ := HPV.out j hj
          have cM := nat_row HOR.out rfl hjl
          generalize L.getD j 0 = y at cM hlt2
          have y1 : decide ((0 : Int) < (k : Int)) = true := decide_eq_true (by omega)
          have y1b : decide (0 < k) = true := decide_eq_true (by omega)
          have y2 : decide ((x : Int) ≤ (y : Int)) = false := decide_eq_false (by omega)
          have y2b : decide (x ≤ y) = false := decide_eq_false (by omega)
          have y3 : IntKind.i64.wrap ((k : Int) - 1) = (j : Int) := by rw [IntKind.wrap_i64]; omega
          have y4 : (j : Int) < (L.length : Int) := by omega
          clear hk63 hj hlt2 hjl h0
          go_quiet (fail)
          go_wp2
          go_meet
          exact ⟨rfl, _, rfl⟩
      case rest =>
        obtain ⟨rfl, nq, rfl⟩ := hcut
        have HBa := Lib.hid (bl_drewN HB.out nq)
        have HOa := Lib.hid (ow_none HOR.out (gb_below (bl_drewN (bl_refl wr) nq)))
        have HPa := Lib.hid (ow_none HPR.out (gb_below (bl_drewN (bl_refl wr) nq)))
        have HTa := Lib.hid (ow_none HTR.out (gb_below (bl_drewN (bl_refl wr) nq)))
        clear HB HOR HPR HTR cL x1 x2 x3
        generalize wr.drewN nq = Wa at HBa HOa HPa HTa ⊢
        go_upto_region 9 with fail
        have cL := nat_row HOa.out rfl hlt
        obtain ⟨t, ht⟩ : ∃ t, t = cntL (L.take k) [] x := ⟨_, rfl⟩
        have ht63 : (t : Int) + 1 ≤ 9000000000000 := by have := HCL.out x; omega
        have hwr : IntKind.i64.wrap ((t : Int) + 1) = (t : Int) + 1 := by rw [IntKind.wrap_i64]; omega
        have ct : Wa.cell? ⟨tb, x, none⟩ = some (.int .i64 (t : Int)) := by have := HTa.out.cellAt x (by rw [Nat.mul_one]; exact HXN.out); rw [times_at _ HXN.out, ← ht] at this; exact this
        have ft : Wa.frozen? ⟨tb, x, none⟩ = false := HTa.out.frozenAt _
        have hxI : (x : Int) < (n : Int) := by have := HXN.out; omega
        have hxe : L.getD k 0 = x := HXE.out.symm
        rw [hxe] at cL
        have HTE := Lib.hid ht
        clear ht
        have HBb : Hid (Below W.heap.size W Wa.drew) := Lib.hid (bl_drew HBa.out)
        have HOb := Lib.hid (ow_none HOa.out (gb_below (bl_drew (bl_refl Wa))))
        have HPb := Lib.hid (ow_none HPa.out (gb_below (bl_drew (bl_refl Wa))))
        have HTb := Lib.hid (ow_none HTa.out (gb_below (bl_drew (bl_refl Wa))))
        clear HBa HOa HPa HTa
        refine wp_region_heldE (S := fun W1 => W1.cell? ⟨og, k, none⟩ = some (.int .i64 (x : Int)) ∧ W1.cell? ⟨tb, x, none⟩ = some (.int .i64 (t : Int)) ∧ W1.frozen? ⟨tb, x, none⟩ = false) (ds := [14]) (by kernel_rfl) (⟨cL, ct, ft⟩) (fun hHeld => ?_)
        refine wpAnyE_take (i := 0) (oi := ({ dst := some 66, op := Op.move (Operand.tmp 11), type := 94, pos := "outright.go:103", after := #[], guard := none } : Oper)) (v := ?_) rfl (by kernel_rfl) (by kernel_rfl) (by kernel_rfl) (by kernel_rfl) (fun _ _ _ h => h) (Or.inl ⟨by rfl, ?_⟩) hHeld ?_
        rotate_left
        · intro w' hSw; (try dsimp only at hSw); go_simp <;> with_reducible rfl
        try simp only [Act.put, List.setIfInBounds_toArray, List.set_cons_zero, List.set_cons_succ]
        refine wpAnyE_take (i := 1) (oi := ({ dst := some 67, op := Op.move (Operand.tmp 12), type := 94, pos := "outright.go:103", after := #[], guard := none } : Oper)) (v := ?_) rfl (by kernel_rfl) (by kernel_rfl) (by kernel_rfl) (by kernel_rfl) (fun _ _ _ h => h) (Or.inl ⟨by rfl, ?_⟩) hHeld ?_
        rotate_left
        · intro w' hSw; (try dsimp only at hSw); go_simp <;> with_reducible rfl
        try simp only [Act.put, List.setIfInBounds_toArray, List.set_cons_zero, List.set_cons_succ]
        refine wpAnyE_take (i := 2) (oi := ({ dst := some 68, op := Op.move (Operand.tmp 14), type := 3, pos := "outright.go:103", after := #[], guard := none } : Oper)) (v := ?_) rfl (by kernel_rfl) (by kernel_rfl) (by kernel_rfl) (by kernel_rfl) (fun _ _ _ h => h) (Or.inl ⟨by rfl, ?_⟩) hHeld ?_
        rotate_left
        · intro w' hSw; (try dsimp only at hSw); go_simp <;> with_reducible rfl
        try simp only [Act.put, List.setIfInBounds_toArray, List.set_cons_zero, List.set_cons_succ]
        refine wpAnyE_take (i := 3) (oi := ({ dst := some 69, op := Op.indexAddr 94 (Operand.tmp 67) (Operand.tmp 68), type := 0, pos := "outright.go:103", after := #[{ on := 1, ground := Ground.data }, { on := 2, ground := Ground.data }], guard := none } : Oper)) (v := ?_) rfl (by kernel_rfl) (by kernel_rfl) (by kernel_rfl) (by kernel_rfl) (fun _ _ _ h => h) (Or.inl ⟨by rfl, ?_⟩) hHeld ?_
        rotate_left
        · intro w' hSw; (try dsimp only at hSw); go_simp <;> with_reducible rfl
        try simp only [Act.put, List.setIfInBounds_toArray, List.set_cons_zero, List.set_cons_succ]
        refine wpAnyE_take (i := 4) (oi := ({ dst := some 70, op := Op.load 3 (Operand.tmp 69), type := 3, pos := "outright.go:103", after := #[{ on := 3, ground := Ground.data }], guard := none } : Oper)) (v := ?_) rfl (by kernel_rfl) (by kernel_rfl) (by kernel_rfl) (by kernel_rfl) (fun _ _ _ h => h) (Or.inl ⟨by rfl, ?_⟩) hHeld ?_
        rotate_left
        · intro w' hSw; (try dsimp only at hSw); have hcf := hSw.1; go_simp <;> with_reducible rfl
        try simp only [Act.put, List.setIfInBounds_toArray, List.set_cons_zero, List.set_cons_succ]
        refine wpAnyE_take (i := 5) (oi := ({ dst := some 71, op := Op.move (Operand.tmp 11), type := 94, pos := "outright.go:103", after := #[], guard := none } : Oper)) (v := ?_) rfl (by kernel_rfl) (by kernel_rfl) (by kernel_rfl) (by kernel_rfl) (fun _ _ _ h => h) (Or.inl ⟨by rfl, ?_⟩) hHeld ?_
        rotate_left
        · intro w' hSw; (try dsimp only at hSw); go_simp <;> with_reducible rfl
        try simp only [Act.put, List.setIfInBounds_toArray, List.set_cons_zero, List.set_cons_succ]
        refine wpAnyE_take (i := 6) (oi := ({ dst := some 72, op := Op.move (Operand.tmp 12), type := 94, pos := "outright.go:103", after := #[], guard := none } : Oper)) (v := ?_) rfl (by kernel_rfl) (by kernel_rfl) (by kernel_rfl) (by kernel_rfl) (fun _ _ _ h => h) (Or.inl ⟨by rfl, ?_⟩) hHeld ?_
        rotate_left
        · intro w' hSw; (try dsimp only at hSw); go_simp <;> with_reducible rfl
        try simp only [Act.put, List.setIfInBounds_toArray, List.set_cons_zero, List.set_cons_succ]
        refine wpAnyE_take (i := 7) (oi := ({ dst := some 73, op := Op.move (Operand.tmp 14), type := 3, pos := "outright.go:103", after := #[], guard := none } : Oper)) (v := ?_) rfl (by kernel_rfl) (by kernel_rfl) (by kernel_rfl) (by kernel_rfl) (fun _ _ _ h => h) (Or.inl ⟨by rfl, ?_⟩) hHeld ?_
        rotate_left
        · intro w' hSw; (try dsimp only at hSw); go_simp <;> with_reducible rfl
        try simp only [Act.put, List.setIfInBounds_toArray, List.set_cons_zero, List.set_cons_succ]
        refine wpAnyE_take (i := 8) (oi := ({ dst := some 74, op := Op.indexAddr 94 (Operand.tmp 72) (Operand.tmp 73), type := 0, pos := "outright.go:103", after := #[{ on := 6, ground := Ground.data }, { on := 7, ground := Ground.data }], guard := none } : Oper)) (v := ?_) rfl (by kernel_rfl) (by kernel_rfl) (by kernel_rfl) (by kernel_rfl) (fun _ _ _ h => h) (Or.inl ⟨by rfl, ?_⟩) hHeld ?_
        rotate_left
        · intro w' hSw; (try dsimp only at hSw); go_simp <;> with_reducible rfl
        try simp only [Act.put, List.setIfInBounds_toArray, List.set_cons_zero, List.set_cons_succ]
        refine wpAnyE_take (i := 9) (oi := ({ dst := some 75, op := Op.load 3 (Operand.tmp 74), type := 3, pos := "outright.go:103", after := #[{ on := 8, ground := Ground.data }], guard := none } : Oper)) (v := ?_) rfl (by kernel_rfl) (by kernel_rfl) (by kernel_rfl) (by kernel_rfl) (fun _ _ _ h => h) (Or.inl ⟨by rfl, ?_⟩) hHeld ?_
        rotate_left
        · intro w' hSw; (try dsimp only at hSw); have hcf := hSw.1; go_simp <;> with_reducible rfl
        try simp only [Act.put, List.setIfInBounds_toArray, List.set_cons_zero, List.set_cons_succ]
        refine wpAnyE_take (i := 10) (oi := ({ dst := some 76, op := Op.indexAddr 94 (Operand.tmp 71) (Operand.tmp 75), type := 0, pos := "outright.go:103", after := #[{ on := 5, ground := Ground.data }, { on := 9, ground := Ground.data }], guard := none } : Oper)) (v := ?_) rfl (by kernel_rfl) (by kernel_rfl) (by kernel_rfl) (by kernel_rfl) (fun _ _ _ h => h) (Or.inl ⟨by rfl, ?_⟩) hHeld ?_
        rotate_left
        · intro w' hSw; (try dsimp only at hSw); go_simp <;> with_reducible rfl
        try simp only [Act.put, List.setIfInBounds_toArray, List.set_cons_zero, List.set_cons_succ]
        refine wpAnyE_take (i := 11) (oi := ({ dst := some 77, op := Op.load 3 (Operand.tmp 76), type := 3, pos := "outright.go:103", after := #[{ on := 10, ground := Ground.data }], guard := none } : Oper)) (v := ?_) rfl (by kernel_rfl) (by kernel_rfl) (by kernel_rfl) (by kernel_rfl) (fun _ _ _ h => h) (Or.inl ⟨by rfl, ?_⟩) hHeld ?_
        rotate_left
        · intro w' hSw; (try dsimp only at hSw); have hcf := hSw.2.1; go_simp <;> with_reducible rfl
        try simp only [Act.put, List.setIfInBounds_toArray, List.set_cons_zero, List.set_cons_succ]
        refine wpAnyE_take (i := 12) (oi := ({ dst := some 78, op := Op.binOp BinOp.add 3 (Operand.tmp 77) (Operand.const (Value.int IntKind.i64 1)) 3, type := 3, pos := "outright.go:103", after := #[{ on := 11, ground := Ground.data }], guard := none } : Oper)) (v := ?_) rfl (by kernel_rfl) (by kernel_rfl) (by kernel_rfl) (by kernel_rfl) (fun _ _ _ h => h) (Or.inl ⟨by rfl, ?_⟩) hHeld ?_
        rotate_left
        · intro w' hSw; (try dsimp only at hSw); go_simp <;> with_reducible rfl
        try simp only [Act.put, List.setIfInBounds_toArray, List.set_cons_zero, List.set_cons_succ]
        refine wpAnyE_take (i := 13) (oi := ({ dst := some 79, op := Op.indexAddr 94 (Operand.tmp 66) (Operand.tmp 70), type := 0, pos := "outright.go:103", after := #[{ on := 0, ground := Ground.data }, { on := 4, ground := Ground.data }, { on := 0, ground := Ground.phase }, { on := 1, ground := Ground.phase }, { on := 2, ground := Ground.phase }, { on := 3, ground := Ground.phase }, { on := 4, ground := Ground.phase }, { on := 5, ground := Ground.phase }, { on := 6, ground := Ground.phase }, { on := 7, ground := Ground.phase }, { on := 8, ground := Ground.phase }, { on := 9, ground := Ground.phase }, { on := 10, ground := Ground.phase }, { on := 11, ground := Ground.phase }, { on := 12, ground := Ground.phase }], guard := none } : Oper)) (v := ?_) rfl (by kernel_rfl) (by kernel_rfl) (by kernel_rfl) (by kernel_rfl) (fun _ _ _ h => h) (Or.inl ⟨by rfl, ?_⟩) hHeld ?_
        rotate_left
        · intro w' hSw; (try dsimp only at hSw); go_simp <;> with_reducible rfl
        try simp only [Act.put, List.setIfInBounds_toArray, List.set_cons_zero, List.set_cons_succ]
        refine wpAnyE_ready (rs := [14]) (by kernel_rfl) (by simp) ?_
        refine AllReadyE.cons (o := ({ dst := none, op := Op.store 3 (Operand.tmp 79) (Operand.tmp 78), type := 0, pos := "outright.go:103", after := #[{ on := 13, ground := Ground.data }, { on := 12, ground := Ground.data }, { on := 0, ground := Ground.phase }, { on := 1, ground := Ground.phase }, { on := 2, ground := Ground.phase }, { on := 3, ground := Ground.phase }, { on := 4, ground := Ground.phase }, { on := 5, ground := Ground.phase }, { on := 6, ground := Ground.phase }, { on := 7, ground := Ground.phase }, { on := 8, ground := Ground.phase }, { on := 9, ground := Ground.phase }, { on := 10, ground := Ground.phase }, { on := 11, ground := Ground.phase }, { on := 12, ground := Ground.phase }], guard := none } : Oper)) rfl (fun K hK => ?_) AllReadyE.nil
        clear ct ft cL
        generalize Wa.drew = Wb at HBb HOb HPb HTb hHeld ⊢
        obtain ⟨_, c1, f1⟩ := hHeld
        go_simp
        refine hK.out _ _ (Or.inl ⟨14, by simp, by kernel_rfl⟩) (fun _ => ?_)
        clear hK K
        try clear hHeld
        try clear hb
        try simp only [Act.put, List.setIfInBounds_toArray, List.set_cons_zero, List.set_cons_succ]
        refine wpAnyE_done (by kernel_rfl) ?_ _
        have hst := HTb.out.stored x (.int .i64 (((t + 1 : Nat) : Int)))
        rw [times_set _ _ HXN.out] at hst
        have HB5 : Hid (Below W.heap.size W (Wb.setCell ⟨tb, x, none⟩ (.int .i64 ((t : Int) + 1)))) := Lib.hid (HBb.out.setCell (by rw [HTBE.out]; exact Nat.le_refl _) _)
        have HP5 : Hid ((Wb.setCell ⟨tb, x, none⟩ (.int .i64 ((t : Int) + 1))).ownsRow (tb + 1) 76 3 (.slice P1 Q.length cp) Q.length (Q.flatMap apC)) := Lib.hid (ow_set2 HPb.out _ _ (Nat.lt_succ_self _))
        have HO5 : Hid ((Wb.setCell ⟨tb, x, none⟩ (.int .i64 ((t : Int) + 1))).ownsRow (tb + 1) 3 1 (.slice (some ⟨og, 0, none⟩) L.length co) L.length (L.map natV)) := Lib.hid (ow_set2 HOb.out _ _ (Nat.lt_succ_self _))
        have HT5 : Hid ((Wb.setCell ⟨tb, x, none⟩ (.int .i64 ((t : Int) + 1))).ownsRow 0 3 1 (.slice (some ⟨tb, 0, none⟩) n n) n (times n (cntL (L.take (k + 1)) []))) := Lib.hid (by
          have e1 : times n (cntL (L.take (k + 1)) []) = times n (fun i => if i = x then t + 1 else cntL (L.take k) [] i) := times_congr (fun i _ => by rw [HTK.out, cnt_snoc, HTE.out])
          rw [e1]
          exact hst.1)
        clear hst HBb HPb HOb HTb c1 f1 hwr ht63 HTE HTK HCL HPV hxI
        generalize Wb.setCell ⟨tb, x, none⟩ (.int .i64 ((t : Int) + 1)) = W5 at HB5 HP5 HO5 HT5 ⊢
        go_wp2
        go_loopg [15, 16, 17] L.length (fun g2 v15 v16 v17 wz => ∃ j : Nat, v15 = .int .i64 j ∧ j ≤ L.length ∧ L.length - j ≤ g2 ∧ Hid (Below W.heap.size W wz) ∧ Hid (wz.ownsRow (tb + 1) 3 1 (.slice (some ⟨og, 0, none⟩) L.length co) L.length (L.map natV)) ∧ Hid (wz.ownsRow (tb + 1) 76 3 (.slice P1 Q.length cp) Q.length (Q.flatMap apC)) ∧ Hid (wz.ownsRow 0 3 1 (.slice (some ⟨tb, 0, none⟩) n n) n (times n (cntL (L.take (k + 1)) []))))
        case atStart => exact ⟨0, rfl, by omega, by omega, HB5, HO5, HP5, HT5⟩
        case round =>
          clear HB5 HO5 HP5 HT5
          obtain ⟨j, rfl, hj, hgj, HB6, HO6, HP6, HT6⟩ := hrel
          by_cases hjl : j < L.length
          · have hjlz : (j : Int) < (L.length : Int) := by omega
            by_cases h40 : j < 40
            · have h40z : (j : Int) < 40 := by omega
              have hj63 : (j : Int) + 1 ≤ 2000000000000 := by omega
              have cL := nat_row HO6.out rfl hlt
              have cM := nat_row HO6.out rfl hjl
              have hyn : L.getD j 0 < n := HLM.out _ (getD_mem_nat hjl)
              have hnf := HNF.out x HXM.out _ (getD_mem_nat hjl)
              rw [← HXE.out] at cL
              generalize L.getD j 0 = y at cM hyn hnf
              obtain ⟨sg, hsg⟩ := own_addr HS.out (by omega)
              subst hsg
              have HFQ := Lib.hid (fun W' h => HF.out W' h x y HXN.out hyn)
              have LD := Lib.hid (fun W' (h : Below W.heap.size W W') => load_sd (ow_none HS.out (gb_below h)) HSL.out HXN.out)
              have LR := Lib.hid (fun W' (h : Below W.heap.size W W') => load_sd (ow_none HS.out (gb_below h)) HSL.out hyn)
              rw [hnf] at HFQ
              generalize sideC (sl.getD x (0, nt0)).1 (sl.getD x (0, nt0)).2 = SD at HFQ LD
              generalize sideC (sl.getD y (0, nt0)).1 (sl.getD y (0, nt0)).2 = SR at HFQ LR
              generalize (fitE (sl.getD x (0, nt0)).1 (sl.getD y (0, nt0)).1 (sl.getD x (0, nt0)).2 (sl.getD y (0, nt0)).2 zs tol).1 = am at HFQ
              have hxI : (x : Int) < (n : Int) := by have := HXN.out; omega
              have hyI : (y : Int) < (n : Int) := by omega
              clear hnf
              go_upto_region 13 with fail
              have HB7 : Hid (Below W.heap.size W wr.drew) := Lib.hid (bl_drew HB6.out)
              have HP7 := Lib.hid (ow_none HP6.out (gb_below (bl_drew (bl_refl wr))))
              have HO7 := Lib.hid (ow_none HO6.out (gb_below (bl_drew (bl_refl wr))))
              have HT7 := Lib.hid (ow_none HT6.out (gb_below (bl_drew (bl_refl wr))))
              have cL7 : wr.drew.cell? ⟨og, k, none⟩ = some (.int .i64 (x : Int)) := cL
              have cM7 : wr.drew.cell? ⟨og, j, none⟩ = some (.int .i64 (y : Int)) := cM
              clear HB6 HP6 HO6 HT6 cL cM
              refine wp_region_heldE (S := fun W1 => W1.cell? ⟨og, k, none⟩ = some (.int .i64 (x : Int)) ∧ W1.cell? ⟨og, j, none⟩ = some (.int .i64 (y : Int)) ∧ Below W.heap.size W W1) (ds := []) (by kernel_rfl) (⟨cL7, cM7, HB7.out⟩) (fun hHeld => ?_)
              refine wpAnyE_take (i := 0) (oi := ({ dst := some 91, op := Op.move (Operand.tmp 3), type := 43, pos := "outright.go:105", after := #[], guard := none } : Oper)) (v := ?_) rfl (by kernel_rfl) (by kernel_rfl) (by kernel_rfl) (by kernel_rfl) (fun _ _ _ h => h) (Or.inl ⟨by rfl, ?_⟩) hHeld ?_
              rotate_left
              · intro w' hSw; (try dsimp only at hSw); go_simp <;> with_reducible rfl
              try simp only [Act.put, List.setIfInBounds_toArray, List.set_cons_zero, List.set_cons_succ]
              refine wpAnyE_take (i := 1) (oi := ({ dst := some 92, op := Op.move (Operand.tmp 12), type := 94, pos := "outright.go:105", after := #[], guard := none } : Oper)) (v := ?_) rfl (by kernel_rfl) (by kernel_rfl) (by kernel_rfl) (by kernel_rfl) (fun _ _ _ h => h) (Or.inl ⟨by rfl, ?_⟩) hHeld ?_
              rotate_left
              · intro w' hSw; (try dsimp only at hSw); go_simp <;> with_reducible rfl
              try simp only [Act.put, List.setIfInBounds_toArray, List.set_cons_zero, List.set_cons_succ]
              refine wpAnyE_take (i := 2) (oi := ({ dst := some 93, op := Op.move (Operand.tmp 14), type := 3, pos := "outright.go:105", after := #[], guard := none } : Oper)) (v := ?_) rfl (by kernel_rfl) (by kernel_rfl) (by kernel_rfl) (by kernel_rfl) (fun _ _ _ h => h) (Or.inl ⟨by rfl, ?_⟩) hHeld ?_
              rotate_left
              · intro w' hSw; (try dsimp only at hSw); go_simp <;> with_reducible rfl
              try simp only [Act.put, List.setIfInBounds_toArray, List.set_cons_zero, List.set_cons_succ]
              refine wpAnyE_take (i := 3) (oi := ({ dst := some 94, op := Op.indexAddr 94 (Operand.tmp 92) (Operand.tmp 93), type := 0, pos := "outright.go:105", after := #[{ on := 1, ground := Ground.data }, { on := 2, ground := Ground.data }], guard := none } : Oper)) (v := ?_) rfl (by kernel_rfl) (by kernel_rfl) (by kernel_rfl) (by kernel_rfl) (fun _ _ _ h => h) (Or.inl ⟨by rfl, ?_⟩) hHeld ?_
              rotate_left
              · intro w' hSw; (try dsimp only at hSw); go_simp <;> with_reducible rfl
              try simp only [Act.put, List.setIfInBounds_toArray, List.set_cons_zero, List.set_cons_succ]
              refine wpAnyE_take (i := 4) (oi := ({ dst := some 95, op := Op.load 3 (Operand.tmp 94), type := 3, pos := "outright.go:105", after := #[{ on := 3, ground := Ground.data }], guard := none } : Oper)) (v := ?_) rfl (by kernel_rfl) (by kernel_rfl) (by kernel_rfl) (by kernel_rfl) (fun _ _ _ h => h) (Or.inl ⟨by rfl, ?_⟩) hHeld ?_
              rotate_left
              · intro w' hSw; (try dsimp only at hSw); have hcf := hSw.1; go_simp <;> with_reducible rfl
              try simp only [Act.put, List.setIfInBounds_toArray, List.set_cons_zero, List.set_cons_succ]
              refine wpAnyE_take (i := 5) (oi := ({ dst := some 96, op := Op.indexAddr 43 (Operand.tmp 91) (Operand.tmp 95), type := 0, pos := "outright.go:105", after := #[{ on := 0, ground := Ground.data }, { on := 4, ground := Ground.data }], guard := none } : Oper)) (v := ?_) rfl (by kernel_rfl) (by kernel_rfl) (by kernel_rfl) (by kernel_rfl) (fun _ _ _ h => h) (Or.inl ⟨by rfl, ?_⟩) hHeld ?_
              rotate_left
              · intro w' hSw; (try dsimp only at hSw); go_simp <;> with_reducible rfl
              try simp only [Act.put, List.setIfInBounds_toArray, List.set_cons_zero, List.set_cons_succ]
              refine wpAnyE_take (i := 6) (oi := ({ dst := some 97, op := Op.load 28 (Operand.tmp 96), type := 28, pos := "outright.go:105", after := #[{ on := 5, ground := Ground.data }], guard := none } : Oper)) (v := .agg SD) rfl (by kernel_rfl) (by kernel_rfl) (by kernel_rfl) (by kernel_rfl) (fun _ _ _ h => h) (yieldsIf_load_known (by rfl) 28 (Operand.tmp 96) rfl ⟨sg, x * 28, none⟩ (.agg SD) rfl (fun w' h => LD.out w' h.2.2)) hHeld ?_
              try simp only [Act.put, List.setIfInBounds_toArray, List.set_cons_zero, List.set_cons_succ]
              refine wpAnyE_take (i := 7) (oi := ({ dst := some 98, op := Op.move (Operand.tmp 3), type := 43, pos := "outright.go:105", after := #[], guard := none } : Oper)) (v := ?_) rfl (by kernel_rfl) (by kernel_rfl) (by kernel_rfl) (by kernel_rfl) (fun _ _ _ h => h) (Or.inl ⟨by rfl, ?_⟩) hHeld ?_
              rotate_left
              · intro w' hSw; (try dsimp only at hSw); go_simp <;> with_reducible rfl
              try simp only [Act.put, List.setIfInBounds_toArray, List.set_cons_zero, List.set_cons_succ]
              refine wpAnyE_take (i := 8) (oi := ({ dst := some 99, op := Op.move (Operand.tmp 12), type := 94, pos := "outright.go:105", after := #[], guard := none } : Oper)) (v := ?_) rfl (by kernel_rfl) (by kernel_rfl) (by kernel_rfl) (by kernel_rfl) (fun _ _ _ h => h) (Or.inl ⟨by rfl, ?_⟩) hHeld ?_
              rotate_left
              · intro w' hSw; (try dsimp only at hSw); go_simp <;> with_reducible rfl
              try simp only [Act.put, List.setIfInBounds_toArray, List.set_cons_zero, List.set_cons_succ]
              refine wpAnyE_take (i := 9) (oi := ({ dst := some 100, op := Op.move (Operand.tmp 15), type := 3, pos := "outright.go:105", after := #[], guard := none } : Oper)) (v := ?_) rfl (by kernel_rfl) (by kernel_rfl) (by kernel_rfl) (by kernel_rfl) (fun _ _ _ h => h) (Or.inl ⟨by rfl, ?_⟩) hHeld ?_
              rotate_left
              · intro w' hSw; (try dsimp only at hSw); go_simp <;> with_reducible rfl
              try simp only [Act.put, List.setIfInBounds_toArray, List.set_cons_zero, List.set_cons_succ]
              refine wpAnyE_take (i := 10) (oi := ({ dst := some 101, op := Op.indexAddr 94 (Operand.tmp 99) (Operand.tmp 100), type := 0, pos := "outright.go:105", after := #[{ on := 8, ground := Ground.data }, { on := 9, ground := Ground.data }], guard := none } : Oper)) (v := ?_) rfl (by kernel_rfl) (by kernel_rfl) (by kernel_rfl) (by kernel_rfl) (fun _ _ _ h => h) (Or.inl ⟨by rfl, ?_⟩) hHeld ?_
              rotate_left
              · intro w' hSw; (try dsimp only at hSw); go_simp <;> with_reducible rfl
              try simp only [Act.put, List.setIfInBounds_toArray, List.set_cons_zero, List.set_cons_succ]
              refine wpAnyE_take (i := 11) (oi := ({ dst := some 102, op := Op.load 3 (Operand.tmp 101), type := 3, pos := "outright.go:105", after := #[{ on := 10, ground := Ground.data }], guard := none } : Oper)) (v := ?_) rfl (by kernel_rfl) (by kernel_rfl) (by kernel_rfl) (by kernel_rfl) (fun _ _ _ h => h) (Or.inl ⟨by rfl, ?_⟩) hHeld ?_
              rotate_left
              · intro w' hSw; (try dsimp only at hSw); have hcf := hSw.2.1; go_simp <;> with_reducible rfl
              try simp only [Act.put, List.setIfInBounds_toArray, List.set_cons_zero, List.set_cons_succ]
              refine wpAnyE_take (i := 12) (oi := ({ dst := some 103, op := Op.indexAddr 43 (Operand.tmp 98) (Operand.tmp 102), type := 0, pos := "outright.go:105", after := #[{ on := 7, ground := Ground.data }, { on := 11, ground := Ground.data }], guard := none } : Oper)) (v := ?_) rfl (by kernel_rfl) (by kernel_rfl) (by kernel_rfl) (by kernel_rfl) (fun _ _ _ h => h) (Or.inl ⟨by rfl, ?_⟩) hHeld ?_
              rotate_left
              · intro w' hSw; (try dsimp only at hSw); go_simp <;> with_reducible rfl
              try simp only [Act.put, List.setIfInBounds_toArray, List.set_cons_zero, List.set_cons_succ]
              refine wpAnyE_take (i := 13) (oi := ({ dst := some 104, op := Op.load 28 (Operand.tmp 103), type := 28, pos := "outright.go:105", after := #[{ on := 12, ground := Ground.data }], guard := none } : Oper)) (v := .agg SR) rfl (by kernel_rfl) (by kernel_rfl) (by kernel_rfl) (by kernel_rfl) (fun _ _ _ h => h) (yieldsIf_load_known (by rfl) 28 (Operand.tmp 103) rfl ⟨sg, y * 28, none⟩ (.agg SR) rfl (fun w' h => LR.out w' h.2.2)) hHeld ?_
              try simp only [Act.put, List.setIfInBounds_toArray, List.set_cons_zero, List.set_cons_succ]
              refine wpAnyE_take (i := 14) (oi := ({ dst := some 105, op := Op.move (Operand.tmp 1), type := 29, pos := "outright.go:105", after := #[], guard := none } : Oper)) (v := ?_) rfl (by kernel_rfl) (by kernel_rfl) (by kernel_rfl) (by kernel_rfl) (fun _ _ _ h => h) (Or.inl ⟨by rfl, ?_⟩) hHeld ?_
              rotate_left
              · intro w' hSw; (try dsimp only at hSw); go_simp <;> with_reducible rfl
              try simp only [Act.put, List.setIfInBounds_toArray, List.set_cons_zero, List.set_cons_succ]
              refine wpAnyE_take (i := 15) (oi := ({ dst := some 106, op := Op.move (Operand.tmp 2), type := 2, pos := "outright.go:105", after := #[], guard := none } : Oper)) (v := ?_) rfl (by kernel_rfl) (by kernel_rfl) (by kernel_rfl) (by kernel_rfl) (fun _ _ _ h => h) (Or.inl ⟨by rfl, ?_⟩) hHeld ?_
              rotate_left
              · intro w' hSw; (try dsimp only at hSw); go_simp <;> with_reducible rfl
              try simp only [Act.put, List.setIfInBounds_toArray, List.set_cons_zero, List.set_cons_succ]
              refine wpAnyE_ready (rs := [16]) (by kernel_rfl) (by simp) ?_
              refine AllReadyE.cons (o := ({ dst := some 107, op := Op.call { callee := Callee.value (Operand.func 7), args := #[Operand.tmp 97, Operand.tmp 104, Operand.tmp 105, Operand.tmp 106], argTypes := #[28, 28, 29, 2] }, type := 30, pos := "outright.go:105", after := #[{ on := 6, ground := Ground.data }, { on := 13, ground := Ground.data }, { on := 14, ground := Ground.data }, { on := 15, ground := Ground.data }], guard := none } : Oper)) rfl (fun K hK => ?_) AllReadyE.nil
              go_simp
              go_at_call 7
              (with_reducible refine (HFQ.out _ hHeld.2.2).mono ?_)
              rintro e W9 ⟨rfl, hb9⟩
              have HB9 := Lib.hid (bl_then HB7.out hb9)
              have HP9 := Lib.hid (ow_none HP7.out (gb_below hb9))
              have HO9 := Lib.hid (ow_none HO7.out (gb_below hb9))
              have HT9 := Lib.hid (ow_none HT7.out (gb_below hb9))
              have cL9 := bl_cell hb9 hHeld.1
              have cM9 := bl_cell hb9 hHeld.2.1
              clear HB7 HP7 HO7 HT7 cL7 cM7
              have hHeld2 : (show World → Prop from fun W1 => W1.cell? ⟨og, k, none⟩ = some (.int .i64 (x : Int)) ∧ W1.cell? ⟨og, j, none⟩ = some (.int .i64 (y : Int)) ∧ Below W.heap.size W W1) _ := ⟨cL9, cM9, HB9.out⟩
              refine hK.out _ _ (Or.inr hHeld2) (fun _ => ?_)
              clear hK K hHeld
              try clear hb
              have hHeld := hHeld2
              clear hHeld2
              try simp only [Act.put, List.setIfInBounds_toArray, List.set_cons_zero, List.set_cons_succ]
              refine wpAnyE_take (i := 17) (oi := ({ dst := some 90, op := Op.move (Operand.tmp 107), type := 30, pos := "outright.go:105", after := #[{ on := 16, ground := Ground.data }], guard := none } : Oper)) (v := ?_) rfl (by kernel_rfl) (by kernel_rfl) (by kernel_rfl) (by kernel_rfl) (fun _ _ _ h => h) (Or.inl ⟨by rfl, ?_⟩) hHeld ?_
              rotate_left
              · intro w' hSw; (try dsimp only at hSw); go_simp <;> with_reducible rfl
              try simp only [Act.put, List.setIfInBounds_toArray, List.set_cons_zero, List.set_cons_succ]
              refine wpAnyE_take (i := 18) (oi := ({ dst := some 108, op := Op.extract (Operand.tmp 90) 0, type := 2, pos := "outright.go:105", after := #[{ on := 17, ground := Ground.data }], guard := none } : Oper)) (v := ?_) rfl (by kernel_rfl) (by kernel_rfl) (by kernel_rfl) (by kernel_rfl) (fun _ _ _ h => h) (Or.inl ⟨by rfl, ?_⟩) hHeld ?_
              rotate_left
              · intro w' hSw; (try dsimp only at hSw); go_simp <;> with_reducible rfl
              try simp only [Act.put, List.setIfInBounds_toArray, List.set_cons_zero, List.set_cons_succ]
              refine wpAnyE_take (i := 19) (oi := ({ dst := some 109, op := Op.extract (Operand.tmp 90) 1, type := 4, pos := "outright.go:105", after := #[{ on := 17, ground := Ground.data }, { on := 20, ground := Ground.gcOnly Departure.lateStores }], guard := none } : Oper)) (v := ?_) rfl (by kernel_rfl) (by kernel_rfl) (by kernel_rfl) (by kernel_rfl) (fun _ _ _ h => h) (Or.inl ⟨by rfl, ?_⟩) hHeld ?_
              rotate_left
              · intro w' hSw; (try dsimp only at hSw); go_simp <;> with_reducible rfl
              try simp only [Act.put, List.setIfInBounds_toArray, List.set_cons_zero, List.set_cons_succ]
              refine wpAnyE_take (i := 20) (oi := ({ dst := some 16, op := Op.assign (Operand.tmp 108), type := 2, pos := "outright.go:105", after := #[{ on := 18, ground := Ground.data }, { on := 16, ground := Ground.chain }, { on := 0, ground := Ground.phase }, { on := 1, ground := Ground.phase }, { on := 2, ground := Ground.phase }, { on := 3, ground := Ground.phase }, { on := 4, ground := Ground.phase }, { on := 5, ground := Ground.phase }, { on := 6, ground := Ground.phase }, { on := 7, ground := Ground.phase }, { on := 8, ground := Ground.phase }, { on := 9, ground := Ground.phase }, { on := 10, ground := Ground.phase }, { on := 11, ground := Ground.phase }, { on := 12, ground := Ground.phase }, { on := 13, ground := Ground.phase }, { on := 14, ground := Ground.phase }, { on := 15, ground := Ground.phase }, { on := 16, ground := Ground.phase }, { on := 17, ground := Ground.phase }, { on := 18, ground := Ground.phase }, { on := 19, ground := Ground.textOnly Departure.lateStores }], guard := none } : Oper)) (v := ?_) rfl (by kernel_rfl) (by kernel_rfl) (by kernel_rfl) (by kernel_rfl) (fun _ _ _ h => h) (Or.inl ⟨by rfl, ?_⟩) hHeld ?_
              rotate_left
              · intro w' hSw; (try dsimp only at hSw); go_simp <;> with_reducible rfl
              try simp only [Act.put, List.setIfInBounds_toArray, List.set_cons_zero, List.set_cons_succ]
              refine wpAnyE_take (i := 21) (oi := ({ dst := some 17, op := Op.assign (Operand.tmp 109), type := 4, pos := "outright.go:105", after := #[{ on := 19, ground := Ground.data }, { on := 20, ground := Ground.chain }, { on := 0, ground := Ground.phase }, { on := 1, ground := Ground.phase }, { on := 2, ground := Ground.phase }, { on := 3, ground := Ground.phase }, { on := 4, ground := Ground.phase }, { on := 5, ground := Ground.phase }, { on := 6, ground := Ground.phase }, { on := 7, ground := Ground.phase }, { on := 8, ground := Ground.phase }, { on := 9, ground := Ground.phase }, { on := 10, ground := Ground.phase }, { on := 11, ground := Ground.phase }, { on := 12, ground := Ground.phase }, { on := 13, ground := Ground.phase }, { on := 14, ground := Ground.phase }, { on := 15, ground := Ground.phase }, { on := 16, ground := Ground.phase }, { on := 17, ground := Ground.phase }, { on := 18, ground := Ground.phase }, { on := 19, ground := Ground.phase }, { on := 20, ground := Ground.phase }], guard := none } : Oper)) (v := ?_) rfl (by kernel_rfl) (by kernel_rfl) (by kernel_rfl) (by kernel_rfl) (fun _ _ _ h => h) (Or.inl ⟨by rfl, ?_⟩) hHeld ?_
              rotate_left
              · intro w' hSw; (try dsimp only at hSw); go_simp <;> with_reducible rfl
              try simp only [Act.put, List.setIfInBounds_toArray, List.set_cons_zero, List.set_cons_succ]
              refine wpAnyE_done (by kernel_rfl) ?_ _
              clear hHeld hxI hyI cL9 cM9
              go_wp2
              go_roundg (L.length - (j + 1))
              case measure => omega
              case rel => exact ⟨j + 1, by go_num, by omega, by omega, HB9, HO9, HP9, HT9⟩
            · have h40z : ¬ ((j : Int) < 40) := by omega
              go_upto_if 87 with fail
              refine wp_cond_false rfl (wp_exit ?_)
              go_wp2
              go_roundg (L.length - (k + 1))
              case measure => omega
              case rel => exact ⟨k + 1, by go_num, by omega, by omega, HB6, HO6, HP6, HT6⟩
          · have hjlz : ¬ ((j : Int) < (L.length : Int)) := by omega
            go_upto_if 87 with fail
            refine wp_cond_false rfl (wp_exit ?_)
            go_wp2
            go_roundg (L.length - (k + 1))
            case measure => omega
            case rel => exact ⟨k + 1, by go_num, by omega, by omega, HB6, HO6, HP6, HT6⟩
    · have e0 : k = L.length := by omega
      subst e0
      have HTF : Hid (wr.ownsRow 0 3 1 (.slice (some ⟨tb, 0, none⟩) n n) n (times n (cntL L []))) := Lib.hid (by
        have h1 := HTR.out
        rw [List.take_length] at h1
        exact h1)
      clear HTR
      go_upto_if 33 with fail
      refine wp_cond_false rfl (wp_exit ?_)
      refine hK16 _ _ ?_
      refine rests16 _ _ _ _ _ _ _ _ _ _ _ _ _ _ _ _ _ _ _ _ _ _ _ _ _ _ _ _ _ _ _ _ _ _ _ _ _ _ _ _ _ _ _ _ _ _ _ _ _ _ _ _ _ _ _ _ _ _ _ _ _ _ _ _ _ _ _ _ _ _ _ _ _ _ _ _ _ _ _ _ _ _ _ _ _ _ _ _ _ _ _ _ _ _ _ _ _ _ _ _ _ _ _ _ _ _ _ _ _ _ _ _ _ _ _ _ _ _ _ _ _ _ _ _ _ _ _ _ _ _ _ _ _ _ _ _ _ _ _ _ _ _ _ _ _ _ _ _ _ _ _ _ _ _ _ _ _ _ _ _ _ _ _ _ _ _ _ _ _ _ _ _ _ _ _ _ _ _ _ _ _ _ _ _ _ _ _ _ _ _ _ _ _ _ _ _ _ _ _ _ _ _ _ _ _ _ _ _ _ _ _ _ HS.out HSL.out HG.out HB.out (by rw [HTBE.out]; exact Nat.le_refl _) HTF.out HPR.out HN.out HQL.out (fun i => ?_) HF.out HQ.out HC.out (fun W' h => ⟨rfl, h⟩)
      have h1 := HLB.out
      have h2 := HQL.out
      have h3 : L.count i ≤ L.length := List.count_le_length
      have h4 : Q.countP (fun q => q.d == i) ≤ Q.length := List.countP_le_length
      have h5 : Q.countP (fun q => q.r == i) ≤ Q.length := List.countP_le_length
      unfold cntL
      omega
end Go.Proofs.YtphabkaiheplpaaGreatDoor
