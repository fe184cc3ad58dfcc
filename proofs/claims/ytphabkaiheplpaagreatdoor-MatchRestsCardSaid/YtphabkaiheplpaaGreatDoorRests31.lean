/- Joined texts of this proof: BkCc. -/
import Derived.Outline
import Derived.BigQuiet
import Derived.Test.YtphabkaiheplpaaGreatDoorRests30
/- (*match.Book).Cancel by a contract over books. -/
set_option linter.unusedVariables false
set_option linter.unusedSimpArgs false
set_option maxRecDepth 100000
namespace Go.Proofs.YtphabkaiheplpaaGreatDoor
open Go.RowKit Go.Shelf Go.Maps
open Go.ChangeMaps (setBlock)

set_option maxHeartbeats 8000000 in
set_option maxRecDepth 1000000 in
theorem cancel_walk {F : Nat → Prop} {W : World} {b : Nat} {tv ev pv : Value} {m1 m2 : Nat} {ws : List Wq} {zs : List ByteArray} {tol : Int} {es : List Ent} {ps : List Pr} {p : Int} {r : ByteArray} {Φ : Ending → World → Prop}
    (HM : BkM F W W b tv ev pv m1 m2 (ws.map kwF) #[tv, .int .i64 tol, ev, .map (some m1), .map (some m2), pv] zs (nmOf es) es ps) (HR : WsR F W.heap.size W ws) (HS : StOk zs es ps) (HW : WsOk zs es ws) (hp : I64 p) (hr : r.size ≤ 140737488351232) (hsh : Short zs) (hpw : PowT W) (hpf : PowFree F) (hzl : zs.length ≤ 140737488351232) (hel : es.length ≤ 1000000000000)
    (lost : ∀ w', twiceB es p r = false → Below W.heap.size W w' → Φ (.returned (.tuple #[.bool false, (GErr.mtch ⟨#[115, 105, 100, 101]⟩ 10).val])) w')
    (fin : ∀ i w', i < es.length → (es.getD i ent0).p = p → (es.getD i ent0).x.ref = r → twiceB es p r = true → (es.getD i ent0).gone = true → Below W.heap.size W w' → Φ (.returned (.tuple #[.bool false, (GErr.mtch ⟨#[115, 105, 100, 101]⟩ 21).val])) w')
    (opn : ∀ i j i0 q v' w', i < es.length → (es.getD i ent0).p = p → (es.getD i ent0).x.ref = r → twiceB es p r = true → (es.getD i ent0).gone = false → (es.getD i ent0).pair < 0 → ws[j]? = some q → sameFace q.1 (faceE (es.getD i ent0).p (es.getD i ent0).x zs) = true → q.2.2 = wl zs es (faceE (es.getD i ent0).p (es.getD i ent0).x zs) → q.2.2[i0]? = some i →
      BkM F W w' b tv ev pv m1 m2 ((ws.set j (q.1, v', q.2.2.eraseIdx i0)).map kwF) #[tv, .int .i64 tol, ev, .map (some m1), .map (some m2), pv] zs (nmOf es) (es.set i { es.getD i ent0 with gone := true }) ps → WsR F W.heap.size w' (ws.set j (q.1, v', q.2.2.eraseIdx i0)) → Φ (.returned (.tuple #[.bool true, .nilIface])) w')
    (prd : ∀ i w', i < es.length → (es.getD i ent0).p = p → (es.getD i ent0).x.ref = r → twiceB es p r = true → (es.getD i ent0).gone = false → ¬ (es.getD i ent0).pair < 0 →
      BkM F W w' b tv ev pv m1 m2 (ws.map kwF) #[tv, .int .i64 tol, ev, .map (some m1), .map (some m2), pv] zs (nmOf es) (cancelAt es ps i).2.2.1 (cancelAt es ps i).2.2.2 → WsR F W.heap.size w' ws → Φ (.returned (.tuple #[.bool (cancelAt es ps i).2.1, .nilIface])) w') :
    Calls Tryz.prog 13 #[.pointer (some ⟨b, 0, none⟩), .int .i64 p, .string r] W Φ := by
  obtain ⟨EA, ec, hev⟩ := ow_slice HM.rE
  subst hev
  have c3 : W.cell? ⟨b, 3, none⟩ = some (.map (some m1)) := cell_of_row W b 3 _ _ _ HM.book
  have NT := name_tells HS HM.mN p r hp hr
  have HM0 := Lib.hid HM
  have HR0 := Lib.hid HR
  have HSS := Lib.hid HS
  have HWW := Lib.hid HW
  have HP := Lib.hid hp
  have HSH := Lib.hid hsh
  have HPW := Lib.hid hpw
  have HPF := Lib.hid hpf
  have HZL := Lib.hid hzl
  have HEL := Lib.hid hel
  have HLO := Lib.hid lost
  have HFI := Lib.hid fin
  have HOP := Lib.hid opn
  have HPR := Lib.hid prd
  clear HM HR HS HW hp hr hsh hpw hpf hzl hel lost fin opn prd
  rcases NT with ⟨htw, _, hlk⟩ | ⟨htw, i, hi, hip, hir, hlk⟩
  · have LK := Lib.hid hlk
    have HTW := Lib.hid htw
    clear hlk htw
    go_enter Tryz.func13, Tryz.ntmps13
    go_wp2_with (refine wpList_lookup_known rfl (.tmp 20) (.tmp 23) 77 true rfl (.map (some m1)) (nameV p r) (.tuple #[.int .i64 0, .bool false]) rfl rfl LK.out ?_)
    exact HLO.out _ HTW.out (bl_alloc (bl_refl W) _)
  · have LK := Lib.hid hlk
    have HTW := Lib.hid htw
    have HI := Lib.hid hi
    have HIP := Lib.hid hip
    have HIR := Lib.hid hir
    obtain ⟨eg, rfl⟩ := own_addr HM0.out.rE (by omega)
    clear hlk htw hip hir
    go_enter Tryz.func13, Tryz.ntmps13
    go_upto_region 4 with (refine wpList_lookup_known rfl (.tmp 20) (.tmp 23) 77 true rfl (.map (some m1)) (nameV p r) (.tuple #[.int .i64 (i : Int), .bool true]) rfl rfl LK.out ?_)
    clear LK c3
    have HB1 := Lib.hid (bl_alloc (bl_refl W) (.cells #[.int .i64 (i : Int)] 3))
    have HM1 := Lib.hid (HM0.out.grow HB1.out)
    have HR1 := Lib.hid (HR0.out.grow HB1.out)
    have HX1 := Lib.hid (heap_alloc_new W (.cells #[.int .i64 (i : Int)] 3))
    have HNB : Hid (∀ q ∈ ws, q.2.1.ownBlock ≠ some W.heap.size) := Lib.hid (fun q hq e => by
      have := row_lt (HR0.out.rW q hq) e
      omega)
    clear HR0
    generalize W.alloc (.cells #[.int .i64 (i : Int)] 3) = W1 at HB1 HM1 HR1 HX1 ⊢
    obtain ⟨nb, hnb⟩ : ∃ nb, nb = W.heap.size := ⟨_, rfl⟩
    rw [← hnb] at HX1 HNB ⊢
    clear hnb
    have c2 : W1.cell? ⟨b, 2, none⟩ = some (.slice (some ⟨eg, 0, none⟩) es.length ec) := cell_of_row W1 b 2 _ _ _ HM1.out.book
    have cb : W1.cell? ⟨nb, 0, none⟩ = some (.int .i64 (i : Int)) := cell_of_row W1 nb 0 _ _ _ HX1.out
    have hiI : (i : Int) < (es.length : Int) := by have := HI.out; omega
    go_upto_region 5 with (go_quiet (fail))
    have HB2 := Lib.hid (bl_drewN HB1.out nq)
    have HM2 := Lib.hid (HM1.out.grow (bl_drewN (bl_refl W1) nq))
    have HR2 := Lib.hid (HR1.out.grow (bl_drewN (bl_refl W1) nq))
    have HX2 : Hid ((W1.drewN nq).heap[nb]? = some (.cells #[.int .i64 (i : Int)] 3 (0, 0))) := Lib.hid HX1.out
    clear HB1 HM1 HR1 HX1 c2 cb hiI HM0
    generalize W1.drewN nq = W2 at HB2 HM2 HR2 HX2 ⊢
    have g30 : W2.cell? ⟨eg, i * 31 + 30, none⟩ = some (.bool (es.getD i ent0).gone) := (entCell_facts HM2.out rfl (k := 30) HI.out (by decide)).1
    have g28 : W2.cell? ⟨eg, i * 31 + 28, none⟩ = some (.int .i64 (es.getD i ent0).pair) := (entCell_facts HM2.out rfl (k := 28) HI.out (by decide)).1
    have f30 : W2.frozen? ⟨eg, i * 31 + 30, none⟩ = false := (entCell_facts HM2.out rfl (k := 30) HI.out (by decide)).2
    have HEI := Lib.hid (show ∀ e, e = es.getD i ent0 → e = es.getD i ent0 from fun _ h => h)
    cases hg : (es.getD i ent0).gone with
    | true =>
      rw [hg] at g30
      have HG := Lib.hid hg
      clear hg g28 f30
      go_wp2
      exact HFI.out i _ HI.out HIP.out HIR.out HTW.out HG.out HB2.out
    | false =>
      rw [hg] at g30
      have HG := Lib.hid hg
      clear hg
      by_cases hpr : (es.getD i ent0).pair < 0
      · have HPP := Lib.hid hpr
        obtain ⟨pr, hpre⟩ : ∃ pr, pr = (es.getD i ent0).pair := ⟨_, rfl⟩
        rw [← hpre] at hpr g28
        clear hpre
        go_upto_region 9 with fail
        rename_i hK10
        have HK10 := Lib.hid hK10
        clear hK10 g28 g30 hpr
        obtain ⟨hm3, hg3⟩ := HM2.out.entCell rfl HI.out (k := 30) (by decide) (.bool true) { es.getD i ent0 with gone := true } (entC_gone _ _) rfl rfl
        have HM3 := Lib.hid hm3
        have HR3 := Lib.hid (HR2.out.row HM2.out.rE (by decide) hg3)
        have HX3 := Lib.hid (row_kept_other HX2.out HM2.out.rE (by decide) hg3)
        have HP3 := Lib.hid (hm3.low)
        clear hm3 hg3 f30 HM2 HR2 HX2
        generalize W2.setCell ⟨eg, i * 31 + 30, none⟩ (.bool true) = W3 at HM3 HR3 HX3 HP3 ⊢
        have heo := HSS.out.ent _ (getD_mem HI.out)
        have HFW := Lib.hid (faceE_wf (es.getD i ent0).p (es.getD i ent0).x zs heo.1 HSH.out)
        have hpw3 : PowT W3 := pow_low HPW.out HPF.out HP3.out
        have hilt : i < (es.set i { es.getD i ent0 with gone := true }).length := by simpa using HI.out
        have hsd : (sideC ((es.set i { es.getD i ent0 with gone := true }).getD i ent0).p ((es.set i { es.getD i ent0 with gone := true }).getD i ent0).x) = sideC (es.getD i ent0).p (es.getD i ent0).x := by rw [getD_set_eq HI.out]
        obtain ⟨TA, tc, hev, hrdt, _⟩ := RdT_of_own HM3.out.rT
        subst hev
        have HM0 := Lib.hid HM3.out.drew
        have HR0 := Lib.hid HR3.out.drew
        have HX0 : Hid (W3.drew.heap[nb]? = some (.cells #[.int .i64 (i : Int)] 3 (0, 0))) := Lib.hid HX3.out
        have HBK := Lib.hid (fun W1 (h : Below W3.drew.heap.size W3.drew W1) => blk_none HM0.out.book (gb_below h))
        have HSB : Hid (∀ W1, Below W3.drew.heap.size W3.drew W1 → (loadVar 28 ⟨eg, i * 31, none⟩).run Tryz.prog W1 = .ok (.agg (sideC (es.getD i ent0).p (es.getD i ent0).x)) W1) := Lib.hid (fun W1 h => by
          rw [← hsd]
          have hrE := ow_none HM0.out.rE (gb_below h)
          rw [List.length_set] at hrE
          exact load_ent hrE (by simp) hilt)
        have HFO : Hid (∀ W1, Below W3.drew.heap.size W3.drew W1 → Calls Tryz.prog 23 #[.agg (sideC (es.getD i ent0).p (es.getD i ent0).x), .slice TA zs.length tc] W1 fun e1 w' => e1 = .returned (.tuple #[.agg (faceC (faceE (es.getD i ent0).p (es.getD i ent0).x zs)), .agg (faceC (faceO (es.getD i ent0).p (es.getD i ent0).x zs))]) ∧ Below W1.heap.size W1 w') := Lib.hid (fun W1 h =>
          faceOf_agg _ _ TA zs.length tc zs (h) heo.2.1 heo.1 (hrdt.below (bl_drew (bl_refl W3))) HSH.out HZL.out (hpw3.below (bl_drew (bl_refl W3))))
        obtain ⟨fe, hfe⟩ : ∃ f, f = faceE (es.getD i ent0).p (es.getD i ent0).x zs := ⟨_, rfl⟩
        obtain ⟨fo, hfo⟩ : ∃ f, f = faceO (es.getD i ent0).p (es.getD i ent0).x zs := ⟨_, rfl⟩
        obtain ⟨SC, hsc⟩ : ∃ S, S = sideC (es.getD i ent0).p (es.getD i ent0).x := ⟨_, rfl⟩
        rw [← hfe] at HFW HFO
        rw [← hfo] at HFO
        rw [← hsc] at HSB HFO
        have hmem : i ∈ wl zs es fe := by
          unfold wl
          rw [List.mem_filter]
          refine ⟨List.mem_range.2 HI.out, ?_⟩
          have h1 : openB (es.getD i ent0) = true := by unfold openB; rw [HG.out]; simpa using HPP.out
          rw [h1, hfe]
          exact sf_self _
        obtain ⟨j, q, hq, hs, hlq⟩ := (wait_list HM3.out HR3.out HWW.out HFW.out).choose_spec.choose_spec.2.2 (List.length_pos_of_mem hmem)
        obtain ⟨i0, hi0, hii⟩ := List.getElem_of_mem hmem
        have HI0 : Hid (q.2.2[i0]? = some i) := Lib.hid (by rw [hlq, List.getElem?_eq_getElem hi0, hii])
        have HQ := Lib.hid hq
        have HS := Lib.hid hs
        have HLQ := Lib.hid hlq
        have HFE := Lib.hid hfe
        have HNQ := Lib.hid (HNB.out q (List.mem_of_getElem? hq))
        have HND : Hid (q.2.2.Nodup) := Lib.hid (by rw [hlq]; exact wl_nodup _ _ _)
        clear heo hpw3 hilt hsd hrdt hfe hfo hsc hmem hq hs hlq hi0 hii HM3 HR3 HX3
        refine wp_region_heldE (S := fun W1 => Below W3.drew.heap.size W3.drew W1) (ds := [14, 15]) (by kernel_rfl) (bl_refl _) (fun hHeld => ?_)
        refine wpAnyE_take (i := 0) (oi := ({ dst := some 54, op := Op.move (Operand.tmp 10), type := 98, pos := "match.go:169", after := #[], guard := none } : Oper)) (v := ?_) rfl (by kernel_rfl) (by kernel_rfl) (by kernel_rfl) (by kernel_rfl) (fun _ _ _ h => h) (Or.inl ⟨by rfl, ?_⟩) hHeld ?_
        rotate_left
        · intro w' hSw; (try dsimp only at hSw); go_simp <;> with_reducible rfl
        try simp only [Act.put, List.setIfInBounds_toArray, List.set_cons_zero, List.set_cons_succ]
        refine wpAnyE_take (i := 1) (oi := ({ dst := some 55, op := Op.nilCheck (Operand.tmp 54), type := 0, pos := "match.go:169", after := #[{ on := 0, ground := Ground.data }], guard := none } : Oper)) (v := ?_) rfl (by kernel_rfl) (by kernel_rfl) (by kernel_rfl) (by kernel_rfl) (fun _ _ _ h => h) (Or.inl ⟨by rfl, ?_⟩) hHeld ?_
        rotate_left
        · intro w' hSw; (try dsimp only at hSw); go_simp <;> with_reducible rfl
        try simp only [Act.put, List.setIfInBounds_toArray, List.set_cons_zero, List.set_cons_succ]
        refine wpAnyE_take (i := 2) (oi := ({ dst := some 56, op := Op.fieldAddr 93 (Operand.tmp 55) 0, type := 0, pos := "match.go:169", after := #[{ on := 1, ground := Ground.data }], guard := none } : Oper)) (v := ?_) rfl (by kernel_rfl) (by kernel_rfl) (by kernel_rfl) (by kernel_rfl) (fun _ _ _ h => h) (Or.inl ⟨by rfl, ?_⟩) hHeld ?_
        rotate_left
        · intro w' hSw; (try dsimp only at hSw); go_simp <;> with_reducible rfl
        try simp only [Act.put, List.setIfInBounds_toArray, List.set_cons_zero, List.set_cons_succ]
        refine wpAnyE_take (i := 3) (oi := ({ dst := some 57, op := Op.load 28 (Operand.tmp 56), type := 28, pos := "match.go:169", after := #[{ on := 2, ground := Ground.data }], guard := none } : Oper)) (v := .agg SC) rfl (by kernel_rfl) (by kernel_rfl) (by kernel_rfl) (by kernel_rfl) (fun _ _ _ h => h) (yieldsIf_load_known (by rfl) 28 (Operand.tmp 56) rfl ⟨eg, i * 31, none⟩ (.agg SC) rfl (fun w' h => HSB.out w' h)) hHeld ?_
        try simp only [Act.put, List.setIfInBounds_toArray, List.set_cons_zero, List.set_cons_succ]
        refine wpAnyE_take (i := 4) (oi := ({ dst := some 58, op := Op.move (Operand.tmp 0), type := 33, pos := "match.go:169", after := #[], guard := none } : Oper)) (v := ?_) rfl (by kernel_rfl) (by kernel_rfl) (by kernel_rfl) (by kernel_rfl) (fun _ _ _ h => h) (Or.inl ⟨by rfl, ?_⟩) hHeld ?_
        rotate_left
        · intro w' hSw; (try dsimp only at hSw); go_simp <;> with_reducible rfl
        try simp only [Act.put, List.setIfInBounds_toArray, List.set_cons_zero, List.set_cons_succ]
        refine wpAnyE_take (i := 5) (oi := ({ dst := some 59, op := Op.nilCheck (Operand.tmp 58), type := 0, pos := "match.go:169", after := #[{ on := 4, ground := Ground.data }], guard := none } : Oper)) (v := ?_) rfl (by kernel_rfl) (by kernel_rfl) (by kernel_rfl) (by kernel_rfl) (fun _ _ _ h => h) (Or.inl ⟨by rfl, ?_⟩) hHeld ?_
        rotate_left
        · intro w' hSw; (try dsimp only at hSw); go_simp <;> with_reducible rfl
        try simp only [Act.put, List.setIfInBounds_toArray, List.set_cons_zero, List.set_cons_succ]
        refine wpAnyE_take (i := 6) (oi := ({ dst := some 60, op := Op.fieldAddr 82 (Operand.tmp 59) 0, type := 0, pos := "match.go:169", after := #[{ on := 5, ground := Ground.data }], guard := none } : Oper)) (v := ?_) rfl (by kernel_rfl) (by kernel_rfl) (by kernel_rfl) (by kernel_rfl) (fun _ _ _ h => h) (Or.inl ⟨by rfl, ?_⟩) hHeld ?_
        rotate_left
        · intro w' hSw; (try dsimp only at hSw); go_simp <;> with_reducible rfl
        try simp only [Act.put, List.setIfInBounds_toArray, List.set_cons_zero, List.set_cons_succ]
        refine wpAnyE_take (i := 7) (oi := ({ dst := some 61, op := Op.load 29 (Operand.tmp 60), type := 29, pos := "match.go:169", after := #[{ on := 6, ground := Ground.data }], guard := none } : Oper)) (v := ?_) rfl (by kernel_rfl) (by kernel_rfl) (by kernel_rfl) (by kernel_rfl) (fun _ _ _ h => h) (Or.inl ⟨by rfl, ?_⟩) hHeld ?_
        rotate_left
        · intro w' hSw; (try dsimp only at hSw); have hcf := cell_of_row w' b 0 _ _ _ (HBK.out _ hSw); go_simp <;> with_reducible rfl
        try simp only [Act.put, List.setIfInBounds_toArray, List.set_cons_zero, List.set_cons_succ]
        refine wpAnyE_ready (rs := [8, 12, 13]) (by kernel_rfl) (by simp) ?_
        refine AllReadyE.cons (o := ({ dst := some 62, op := Op.call { callee := Callee.value (Operand.func 23), args := #[Operand.tmp 57, Operand.tmp 61], argTypes := #[28, 29] }, type := 69, pos := "match.go:169", after := #[{ on := 3, ground := Ground.data }, { on := 7, ground := Ground.data }], guard := none } : Oper)) rfl (fun K hK => ?_) ?_
        · go_simp
          go_at_call 23
          (with_reducible refine (HFO.out _ hHeld).mono ?_)
          rintro e1 W4 ⟨rfl, hb2⟩
          try (have HA := Lib.hid (blk_none HA.out (gb_below hb2)))
          try (have HC := Lib.hid (blk_none HC.out (gb_below hb2)))
          have hHeld2 : (show World → Prop from fun W1 => Below W3.drew.heap.size W3.drew W1) _ := bl_then hHeld hb2
          refine hK.out _ _ (Or.inr hHeld2) (fun _ => ?_)
          clear hK K hHeld
          try clear hb
          have hHeld := hHeld2
          clear hHeld2
          try simp only [Act.put, List.setIfInBounds_toArray, List.set_cons_zero, List.set_cons_succ]
          refine wpAnyE_take (i := 9) (oi := ({ dst := some 53, op := Op.move (Operand.tmp 62), type := 69, pos := "match.go:169", after := #[{ on := 8, ground := Ground.data }], guard := none } : Oper)) (v := ?_) rfl (by kernel_rfl) (by kernel_rfl) (by kernel_rfl) (by kernel_rfl) (fun _ _ _ h => h) (Or.inl ⟨by rfl, ?_⟩) hHeld ?_
          rotate_left
          · intro w' hSw; (try dsimp only at hSw); go_simp <;> with_reducible rfl
          try simp only [Act.put, List.setIfInBounds_toArray, List.set_cons_zero, List.set_cons_succ]
          refine wpAnyE_take (i := 10) (oi := ({ dst := some 63, op := Op.extract (Operand.tmp 53) 0, type := 68, pos := "match.go:169", after := #[{ on := 9, ground := Ground.data }], guard := none } : Oper)) (v := ?_) rfl (by kernel_rfl) (by kernel_rfl) (by kernel_rfl) (by kernel_rfl) (fun _ _ _ h => h) (Or.inl ⟨by rfl, ?_⟩) hHeld ?_
          rotate_left
          · intro w' hSw; (try dsimp only at hSw); go_simp <;> with_reducible rfl
          try simp only [Act.put, List.setIfInBounds_toArray, List.set_cons_zero, List.set_cons_succ]
          refine wpAnyE_ready (rs := [11, 12, 13]) (by kernel_rfl) (by simp) ?_
          refine AllReadyE.cons (o := ({ dst := some 64, op := Op.extract (Operand.tmp 53) 1, type := 68, pos := "match.go:169", after := #[{ on := 9, ground := Ground.data }, { on := 14, ground := Ground.gcOnly Departure.lateStores }], guard := none } : Oper)) rfl (fun K hK => ?_) ?_
          · go_simp
            have hHeld2 : (show World → Prop from fun W1 => Below W3.drew.heap.size W3.drew W1) _ := hHeld
            refine hK.out _ _ (Or.inr hHeld2) (fun _ => ?_)
            clear hK K hHeld
            try clear hb
            have hHeld := hHeld2
            clear hHeld2
            try simp only [Act.put, List.setIfInBounds_toArray, List.set_cons_zero, List.set_cons_succ]
            refine wpAnyE_ready (rs := [12, 13]) (by kernel_rfl) (by simp) ?_
            refine AllReadyE.cons (o := ({ dst := some 11, op := Op.alloc 68, type := 0, pos := "match.go:169", after := #[], guard := none } : Oper)) rfl (fun K hK => ?_) ?_
            · rw [if_pos (by rfl)]
              refine wp_alloc_known 68 rfl (faceC face0) (alloc_face _) ?_
              intro W4 ga hb2 hga hla
              have HLA := Lib.hid (Nat.le_trans hHeld.size hla)
              try (have HNE : Hid (ga ≠ gc) := Lib.hid (fun e => by have := (Array.getElem?_eq_some_iff.1 HC.out).1; omega))
              try (have HC := Lib.hid (blk_none HC.out (gb_below hb2)))
              have HA := Lib.hid hga
              clear hga hla
              have hHeld2 : (show World → Prop from fun W1 => Below W3.drew.heap.size W3.drew W1) _ := bl_then hHeld hb2
              refine hK.out _ _ (Or.inr hHeld2) (fun _ => ?_)
              clear hK K hHeld
              try clear hb
              have hHeld := hHeld2
              clear hHeld2
              try simp only [Act.put, List.setIfInBounds_toArray, List.set_cons_zero, List.set_cons_succ]
              refine wpAnyE_ready (rs := [13]) (by kernel_rfl) (by simp) ?_
              refine AllReadyE.cons (o := ({ dst := some 12, op := Op.alloc 68, type := 0, pos := "match.go:169", after := #[], guard := none } : Oper)) rfl (fun K hK => ?_) AllReadyE.nil
              rw [if_pos (by rfl)]
              refine wp_alloc_known 68 rfl (faceC face0) (alloc_face _) ?_
              intro W4 gc hb2 hgc hlc
              have HLC := Lib.hid (Nat.le_trans hHeld.size hlc)
              try (have HNE : Hid (ga ≠ gc) := Lib.hid (fun e => by have := (Array.getElem?_eq_some_iff.1 HA.out).1; omega))
              try (have HA := Lib.hid (blk_none HA.out (gb_below hb2)))
              have HC := Lib.hid hgc
              clear hgc hlc
              have hHeld2 : (show World → Prop from fun W1 => Below W3.drew.heap.size W3.drew W1) _ := bl_then hHeld hb2
              refine hK.out _ _ (Or.inr hHeld2) (fun _ => ?_)
              clear hK K hHeld
              try clear hb
              have hHeld := hHeld2
              clear hHeld2
              try simp only [Act.put, List.setIfInBounds_toArray, List.set_cons_zero, List.set_cons_succ]
              refine wpAnyE_ready (rs := [14]) (by kernel_rfl) (by simp) ?_
              refine AllReadyE.cons (o := ({ dst := none, op := Op.store 68 (Operand.tmp 11) (Operand.tmp 63), type := 0, pos := "match.go:169", after := #[{ on := 12, ground := Ground.data }, { on := 10, ground := Ground.data }, { on := 8, ground := Ground.chain }, { on := 0, ground := Ground.phase }, { on := 1, ground := Ground.phase }, { on := 2, ground := Ground.phase }, { on := 3, ground := Ground.phase }, { on := 4, ground := Ground.phase }, { on := 5, ground := Ground.phase }, { on := 6, ground := Ground.phase }, { on := 7, ground := Ground.phase }, { on := 8, ground := Ground.phase }, { on := 9, ground := Ground.phase }, { on := 10, ground := Ground.phase }, { on := 11, ground := Ground.textOnly Departure.lateStores }, { on := 12, ground := Ground.phase }, { on := 13, ground := Ground.phase }], guard := none } : Oper)) rfl (fun K hK => ?_) AllReadyE.nil
              rw [if_pos (by rfl)]
              refine wp_store_known 68 (.tmp 11) (.tmp 63) rfl ⟨ga, 0, none⟩ (.agg (faceC fe)) rfl rfl (store_face face0 _ _ ga _ HA.out) ?_
              have HB3 := Lib.hid (below_setRow hHeld HLA.out (faceC fe))
              have HC3 := Lib.hid ((setRow_other _ ga gc (faceC fe) (Ne.symm HNE.out)).trans HC.out)
              have HA3 := Lib.hid (setRow_heap _ ga _ (faceC fe) _ _ HA.out)
              refine hK.out _ _ (Or.inl ⟨14, by simp, by kernel_rfl⟩) (fun _ => ?_)
              clear hK K
              try clear hHeld
              try clear hb
              try simp only [Act.put, List.setIfInBounds_toArray, List.set_cons_zero, List.set_cons_succ]
              refine wpAnyE_ready (rs := [15]) (by kernel_rfl) (by simp) ?_
              refine AllReadyE.cons (o := ({ dst := none, op := Op.store 68 (Operand.tmp 12) (Operand.tmp 64), type := 0, pos := "match.go:169", after := #[{ on := 13, ground := Ground.data }, { on := 11, ground := Ground.data }, { on := 14, ground := Ground.chain }, { on := 0, ground := Ground.phase }, { on := 1, ground := Ground.phase }, { on := 2, ground := Ground.phase }, { on := 3, ground := Ground.phase }, { on := 4, ground := Ground.phase }, { on := 5, ground := Ground.phase }, { on := 6, ground := Ground.phase }, { on := 7, ground := Ground.phase }, { on := 8, ground := Ground.phase }, { on := 9, ground := Ground.phase }, { on := 10, ground := Ground.phase }, { on := 11, ground := Ground.phase }, { on := 12, ground := Ground.phase }, { on := 13, ground := Ground.phase }, { on := 14, ground := Ground.phase }], guard := none } : Oper)) rfl (fun K hK => ?_) AllReadyE.nil
              rw [if_pos (by rfl)]
              refine wp_store_known 68 (.tmp 12) (.tmp 64) rfl ⟨gc, 0, none⟩ (.agg (faceC fo)) rfl rfl (store_face face0 _ _ gc _ HC3.out) ?_
              have HB4 := Lib.hid (below_setRow HB3.out HLC.out (faceC fo))
              have HA4 := Lib.hid ((setRow_other _ gc ga (faceC fo) HNE.out).trans HA3.out)
              refine hK.out _ _ (Or.inl ⟨15, by simp, by kernel_rfl⟩) (fun _ => ?_)
              clear hK K
              try clear hHeld
              try clear hb
              try simp only [Act.put, List.setIfInBounds_toArray, List.set_cons_zero, List.set_cons_succ]
              refine wpAnyE_done (by kernel_rfl) ?_ _
              refine HK10.out _ _ ?_
              exact cancel10 (f := fe) _ _ _ _ _ _ _ _ _ _ _ _ _ _ _ _ _ _ _ _ _ _ _ _ _ _ _ _ _ _ _ _ _ _ _ _ _ _ _ _ _ _ _ _ _ _ _ _ _ _ _ _ _ _ _ _ _ _ _ _ _ _ _ _ _ _ _ _ _ _ _ _ _ _ _ _ _ _ _ _ _ _ _ _ _ _ _ _ _ _ _ _ _ _ _ _ _ _ _ _ _ _ _ _ _ _ _ _ _ _ _ _ _ _ _ _ _ _ _ _ _ _ _ _ _ _ _ _ (HM0.out.grow HB4.out) (HR0.out.grow HB4.out) HWW.out HFW.out HA4.out (blk_none HX0.out (gb_below HB4.out)) HNQ.out HQ.out HS.out HI0.out HND.out (fun c1 a1 a2 w1 h hd1 => ⟨hd1.trans h.1, h.2⟩) (fun T W' v' h1 h2 hm hr => bodyPost_ret (results_tmp2 rfl _ _ _) rfl (show Φ (.returned (.tuple #[T.getD 6 undef, T.getD 7 undef])) W' by rw [h1, h2]; exact HOP.out i j i0 q v' W' HI.out HIP.out HIR.out HTW.out HG.out HPP.out HQ.out (by rw [← HFE.out]; exact HS.out) (by rw [← HFE.out]; exact HLQ.out) HI0.out hm hr))
            refine AllReadyE.cons (o := ({ dst := some 12, op := Op.alloc 68, type := 0, pos := "match.go:169", after := #[], guard := none } : Oper)) rfl (fun K hK => ?_) AllReadyE.nil
            · rw [if_pos (by rfl)]
              refine wp_alloc_known 68 rfl (faceC face0) (alloc_face _) ?_
              intro W4 gc hb2 hgc hlc
              have HLC := Lib.hid (Nat.le_trans hHeld.size hlc)
              try (have HNE : Hid (ga ≠ gc) := Lib.hid (fun e => by have := (Array.getElem?_eq_some_iff.1 HA.out).1; omega))
              try (have HA := Lib.hid (blk_none HA.out (gb_below hb2)))
              have HC := Lib.hid hgc
              clear hgc hlc
              have hHeld2 : (show World → Prop from fun W1 => Below W3.drew.heap.size W3.drew W1) _ := bl_then hHeld hb2
              refine hK.out _ _ (Or.inr hHeld2) (fun _ => ?_)
              clear hK K hHeld
              try clear hb
              have hHeld := hHeld2
              clear hHeld2
              try simp only [Act.put, List.setIfInBounds_toArray, List.set_cons_zero, List.set_cons_succ]
              refine wpAnyE_ready (rs := [12]) (by kernel_rfl) (by simp) ?_
              refine AllReadyE.cons (o := ({ dst := some 11, op := Op.alloc 68, type := 0, pos := "match.go:169", after := #[], guard := none } : Oper)) rfl (fun K hK => ?_) AllReadyE.nil
              rw [if_pos (by rfl)]
              refine wp_alloc_known 68 rfl (faceC face0) (alloc_face _) ?_
              intro W4 ga hb2 hga hla
              have HLA := Lib.hid (Nat.le_trans hHeld.size hla)
              try (have HNE : Hid (ga ≠ gc) := Lib.hid (fun e => by have := (Array.getElem?_eq_some_iff.1 HC.out).1; omega))
              try (have HC := Lib.hid (blk_none HC.out (gb_below hb2)))
              have HA := Lib.hid hga
              clear hga hla
              have hHeld2 : (show World → Prop from fun W1 => Below W3.drew.heap.size W3.drew W1) _ := bl_then hHeld hb2
              refine hK.out _ _ (Or.inr hHeld2) (fun _ => ?_)
              clear hK K hHeld
              try clear hb
              have hHeld := hHeld2
              clear hHeld2
              try simp only [Act.put, List.setIfInBounds_toArray, List.set_cons_zero, List.set_cons_succ]
              refine wpAnyE_ready (rs := [14]) (by kernel_rfl) (by simp) ?_
              refine AllReadyE.cons (o := ({ dst := none, op := Op.store 68 (Operand.tmp 11) (Operand.tmp 63), type := 0, pos := "match.go:169", after := #[{ on := 12, ground := Ground.data }, { on := 10, ground := Ground.data }, { on := 8, ground := Ground.chain }, { on := 0, ground := Ground.phase }, { on := 1, ground := Ground.phase }, { on := 2, ground := Ground.phase }, { on := 3, ground := Ground.phase }, { on := 4, ground := Ground.phase }, { on := 5, ground := Ground.phase }, { on := 6, ground := Ground.phase }, { on := 7, ground := Ground.phase }, { on := 8, ground := Ground.phase }, { on := 9, ground := Ground.phase }, { on := 10, ground := Ground.phase }, { on := 11, ground := Ground.textOnly Departure.lateStores }, { on := 12, ground := Ground.phase }, { on := 13, ground := Ground.phase }], guard := none } : Oper)) rfl (fun K hK => ?_) AllReadyE.nil
              rw [if_pos (by rfl)]
              refine wp_store_known 68 (.tmp 11) (.tmp 63) rfl ⟨ga, 0, none⟩ (.agg (faceC fe)) rfl rfl (store_face face0 _ _ ga _ HA.out) ?_
              have HB3 := Lib.hid (below_setRow hHeld HLA.out (faceC fe))
              have HC3 := Lib.hid ((setRow_other _ ga gc (faceC fe) (Ne.symm HNE.out)).trans HC.out)
              have HA3 := Lib.hid (setRow_heap _ ga _ (faceC fe) _ _ HA.out)
              refine hK.out _ _ (Or.inl ⟨14, by simp, by kernel_rfl⟩) (fun _ => ?_)
              clear hK K
              try clear hHeld
              try clear hb
              try simp only [Act.put, List.setIfInBounds_toArray, List.set_cons_zero, List.set_cons_succ]
              refine wpAnyE_ready (rs := [15]) (by kernel_rfl) (by simp) ?_
              refine AllReadyE.cons (o := ({ dst := none, op := Op.store 68 (Operand.tmp 12) (Operand.tmp 64), type := 0, pos := "match.go:169", after := #[{ on := 13, ground := Ground.data }, { on := 11, ground := Ground.data }, { on := 14, ground := Ground.chain }, { on := 0, ground := Ground.phase }, { on := 1, ground := Ground.phase }, { on := 2, ground := Ground.phase }, { on := 3, ground := Ground.phase }, { on := 4, ground := Ground.phase }, { on := 5, ground := Ground.phase }, { on := 6, ground := Ground.phase }, { on := 7, ground := Ground.phase }, { on := 8, ground := Ground.phase }, { on := 9, ground := Ground.phase }, { on := 10, ground := Ground.phase }, { on := 11, ground := Ground.phase }, { on := 12, ground := Ground.phase }, { on := 13, ground := Ground.phase }, { on := 14, ground := Ground.phase }], guard := none } : Oper)) rfl (fun K hK => ?_) AllReadyE.nil
              rw [if_pos (by rfl)]
              refine wp_store_known 68 (.tmp 12) (.tmp 64) rfl ⟨gc, 0, none⟩ (.agg (faceC fo)) rfl rfl (store_face face0 _ _ gc _ HC3.out) ?_
              have HB4 := Lib.hid (below_setRow HB3.out HLC.out (faceC fo))
              have HA4 := Lib.hid ((setRow_other _ gc ga (faceC fo) HNE.out).trans HA3.out)
              refine hK.out _ _ (Or.inl ⟨15, by simp, by kernel_rfl⟩) (fun _ => ?_)
              clear hK K
              try clear hHeld
              try clear hb
              try simp only [Act.put, List.setIfInBounds_toArray, List.set_cons_zero, List.set_cons_succ]
              refine wpAnyE_done (by kernel_rfl) ?_ _
              refine HK10.out _ _ ?_
              exact cancel10 (f := fe) _ _ _ _ _ _ _ _ _ _ _ _ _ _ _ _ _ _ _ _ _ _ _ _ _ _ _ _ _ _ _ _ _ _ _ _ _ _ _ _ _ _ _ _ _ _ _ _ _ _ _ _ _ _ _ _ _ _ _ _ _ _ _ _ _ _ _ _ _ _ _ _ _ _ _ _ _ _ _ _ _ _ _ _ _ _ _ _ _ _ _ _ _ _ _ _ _ _ _ _ _ _ _ _ _ _ _ _ _ _ _ _ _ _ _ _ _ _ _ _ _ _ _ _ _ _ _ _ (HM0.out.grow HB4.out) (HR0.out.grow HB4.out) HWW.out HFW.out HA4.out (blk_none HX0.out (gb_below HB4.out)) HNQ.out HQ.out HS.out HI0.out HND.out (fun c1 a1 a2 w1 h hd1 => ⟨hd1.trans h.1, h.2⟩) (fun T W' v' h1 h2 hm hr => bodyPost_ret (results_tmp2 rfl _ _ _) rfl (show Φ (.returned (.tuple #[T.getD 6 undef, T.getD 7 undef])) W' by rw [h1, h2]; exact HOP.out i j i0 q v' W' HI.out HIP.out HIR.out HTW.out HG.out HPP.out HQ.out (by rw [← HFE.out]; exact HS.out) (by rw [← HFE.out]; exact HLQ.out) HI0.out hm hr))
          refine AllReadyE.cons (o := ({ dst := some 11, op := Op.alloc 68, type := 0, pos := "match.go:169", after := #[], guard := none } : Oper)) rfl (fun K hK => ?_) ?_
          · rw [if_pos (by rfl)]
            refine wp_alloc_known 68 rfl (faceC face0) (alloc_face _) ?_
            intro W4 ga hb2 hga hla
            have HLA := Lib.hid (Nat.le_trans hHeld.size hla)
            try (have HNE : Hid (ga ≠ gc) := Lib.hid (fun e => by have := (Array.getElem?_eq_some_iff.1 HC.out).1; omega))
            try (have HC := Lib.hid (blk_none HC.out (gb_below hb2)))
            have HA := Lib.hid hga
            clear hga hla
            have hHeld2 : (show World → Prop from fun W1 => Below W3.drew.heap.size W3.drew W1) _ := bl_then hHeld hb2
            refine hK.out _ _ (Or.inr hHeld2) (fun _ => ?_)
            clear hK K hHeld
            try clear hb
            have hHeld := hHeld2
            clear hHeld2
            try simp only [Act.put, List.setIfInBounds_toArray, List.set_cons_zero, List.set_cons_succ]
            refine wpAnyE_ready (rs := [11, 13]) (by kernel_rfl) (by simp) ?_
            refine AllReadyE.cons (o := ({ dst := some 64, op := Op.extract (Operand.tmp 53) 1, type := 68, pos := "match.go:169", after := #[{ on := 9, ground := Ground.data }, { on := 14, ground := Ground.gcOnly Departure.lateStores }], guard := none } : Oper)) rfl (fun K hK => ?_) ?_
            · go_simp
              have hHeld2 : (show World → Prop from fun W1 => Below W3.drew.heap.size W3.drew W1) _ := hHeld
              refine hK.out _ _ (Or.inr hHeld2) (fun _ => ?_)
              clear hK K hHeld
              try clear hb
              have hHeld := hHeld2
              clear hHeld2
              try simp only [Act.put, List.setIfInBounds_toArray, List.set_cons_zero, List.set_cons_succ]
              refine wpAnyE_ready (rs := [13]) (by kernel_rfl) (by simp) ?_
              refine AllReadyE.cons (o := ({ dst := some 12, op := Op.alloc 68, type := 0, pos := "match.go:169", after := #[], guard := none } : Oper)) rfl (fun K hK => ?_) AllReadyE.nil
              rw [if_pos (by rfl)]
              refine wp_alloc_known 68 rfl (faceC face0) (alloc_face _) ?_
              intro W4 gc hb2 hgc hlc
              have HLC := Lib.hid (Nat.le_trans hHeld.size hlc)
              try (have HNE : Hid (ga ≠ gc) := Lib.hid (fun e => by have := (Array.getElem?_eq_some_iff.1 HA.out).1; omega))
              try (have HA := Lib.hid (blk_none HA.out (gb_below hb2)))
              have HC := Lib.hid hgc
              clear hgc hlc
              have hHeld2 : (show World → Prop from fun W1 => Below W3.drew.heap.size W3.drew W1) _ := bl_then hHeld hb2
              refine hK.out _ _ (Or.inr hHeld2) (fun _ => ?_)
              clear hK K hHeld
              try clear hb
              have hHeld := hHeld2
              clear hHeld2
              try simp only [Act.put, List.setIfInBounds_toArray, List.set_cons_zero, List.set_cons_succ]
              refine wpAnyE_ready (rs := [14]) (by kernel_rfl) (by simp) ?_
              refine AllReadyE.cons (o := ({ dst := none, op := Op.store 68 (Operand.tmp 11) (Operand.tmp 63), type := 0, pos := "match.go:169", after := #[{ on := 12, ground := Ground.data }, { on := 10, ground := Ground.data }, { on := 8, ground := Ground.chain }, { on := 0, ground := Ground.phase }, { on := 1, ground := Ground.phase }, { on := 2, ground := Ground.phase }, { on := 3, ground := Ground.phase }, { on := 4, ground := Ground.phase }, { on := 5, ground := Ground.phase }, { on := 6, ground := Ground.phase }, { on := 7, ground := Ground.phase }, { on := 8, ground := Ground.phase }, { on := 9, ground := Ground.phase }, { on := 10, ground := Ground.phase }, { on := 11, ground := Ground.textOnly Departure.lateStores }, { on := 12, ground := Ground.phase }, { on := 13, ground := Ground.phase }], guard := none } : Oper)) rfl (fun K hK => ?_) AllReadyE.nil
              rw [if_pos (by rfl)]
              refine wp_store_known 68 (.tmp 11) (.tmp 63) rfl ⟨ga, 0, none⟩ (.agg (faceC fe)) rfl rfl (store_face face0 _ _ ga _ HA.out) ?_
              have HB3 := Lib.hid (below_setRow hHeld HLA.out (faceC fe))
              have HC3 := Lib.hid ((setRow_other _ ga gc (faceC fe) (Ne.symm HNE.out)).trans HC.out)
              have HA3 := Lib.hid (setRow_heap _ ga _ (faceC fe) _ _ HA.out)
              refine hK.out _ _ (Or.inl ⟨14, by simp, by kernel_rfl⟩) (fun _ => ?_)
              clear hK K
              try clear hHeld
              try clear hb
              try simp only [Act.put, List.setIfInBounds_toArray, List.set_cons_zero, List.set_cons_succ]
              refine wpAnyE_ready (rs := [15]) (by kernel_rfl) (by simp) ?_
              refine AllReadyE.cons (o := ({ dst := none, op := Op.store 68 (Operand.tmp 12) (Operand.tmp 64), type := 0, pos := "match.go:169", after := #[{ on := 13, ground := Ground.data }, { on := 11, ground := Ground.data }, { on := 14, ground := Ground.chain }, { on := 0, ground := Ground.phase }, { on := 1, ground := Ground.phase }, { on := 2, ground := Ground.phase }, { on := 3, ground := Ground.phase }, { on := 4, ground := Ground.phase }, { on := 5, ground := Ground.phase }, { on := 6, ground := Ground.phase }, { on := 7, ground := Ground.phase }, { on := 8, ground := Ground.phase }, { on := 9, ground := Ground.phase }, { on := 10, ground := Ground.phase }, { on := 11, ground := Ground.phase }, { on := 12, ground := Ground.phase }, { on := 13, ground := Ground.phase }, { on := 14, ground := Ground.phase }], guard := none } : Oper)) rfl (fun K hK => ?_) AllReadyE.nil
              rw [if_pos (by rfl)]
              refine wp_store_known 68 (.tmp 12) (.tmp 64) rfl ⟨gc, 0, none⟩ (.agg (faceC fo)) rfl rfl (store_face face0 _ _ gc _ HC3.out) ?_
              have HB4 := Lib.hid (below_setRow HB3.out HLC.out (faceC fo))
              have HA4 := Lib.hid ((setRow_other _ gc ga (faceC fo) HNE.out).trans HA3.out)
              refine hK.out _ _ (Or.inl ⟨15, by simp, by kernel_rfl⟩) (fun _ => ?_)
              clear hK K
              try clear hHeld
              try clear hb
              try simp only [Act.put, List.setIfInBounds_toArray, List.set_cons_zero, List.set_cons_succ]
              refine wpAnyE_done (by kernel_rfl) ?_ _
              refine HK10.out _ _ ?_
              exact cancel10 (f := fe) _ _ _ _ _ _ _ _ _ _ _ _ _ _ _ _ _ _ _ _ _ _ _ _ _ _ _ _ _ _ _ _ _ _ _ _ _ _ _ _ _ _ _ _ _ _ _ _ _ _ _ _ _ _ _ _ _ _ _ _ _ _ _ _ _ _ _ _ _ _ _ _ _ _ _ _ _ _ _ _ _ _ _ _ _ _ _ _ _ _ _ _ _ _ _ _ _ _ _ _ _ _ _ _ _ _ _ _ _ _ _ _ _ _ _ _ _ _ _ _ _ _ _ _ _ _ _ _ (HM0.out.grow HB4.out) (HR0.out.grow HB4.out) HWW.out HFW.out HA4.out (blk_none HX0.out (gb_below HB4.out)) HNQ.out HQ.out HS.out HI0.out HND.out (fun c1 a1 a2 w1 h hd1 => ⟨hd1.trans h.1, h.2⟩) (fun T W' v' h1 h2 hm hr => bodyPost_ret (results_tmp2 rfl _ _ _) rfl (show Φ (.returned (.tuple #[T.getD 6 undef, T.getD 7 undef])) W' by rw [h1, h2]; exact HOP.out i j i0 q v' W' HI.out HIP.out HIR.out HTW.out HG.out HPP.out HQ.out (by rw [← HFE.out]; exact HS.out) (by rw [← HFE.out]; exact HLQ.out) HI0.out hm hr))
            refine AllReadyE.cons (o := ({ dst := some 12, op := Op.alloc 68, type := 0, pos := "match.go:169", after := #[], guard := none } : Oper)) rfl (fun K hK => ?_) AllReadyE.nil
            · rw [if_pos (by rfl)]
              refine wp_alloc_known 68 rfl (faceC face0) (alloc_face _) ?_
              intro W4 gc hb2 hgc hlc
              have HLC := Lib.hid (Nat.le_trans hHeld.size hlc)
              try (have HNE : Hid (ga ≠ gc) := Lib.hid (fun e => by have := (Array.getElem?_eq_some_iff.1 HA.out).1; omega))
              try (have HA := Lib.hid (blk_none HA.out (gb_below hb2)))
              have HC := Lib.hid hgc
              clear hgc hlc
              have hHeld2 : (show World → Prop from fun W1 => Below W3.drew.heap.size W3.drew W1) _ := bl_then hHeld hb2
              refine hK.out _ _ (Or.inr hHeld2) (fun _ => ?_)
              clear hK K hHeld
              try clear hb
              have hHeld := hHeld2
              clear hHeld2
              try simp only [Act.put, List.setIfInBounds_toArray, List.set_cons_zero, List.set_cons_succ]
              refine wpAnyE_ready (rs := [11, 14]) (by kernel_rfl) (by simp) ?_
              refine AllReadyE.cons (o := ({ dst := some 64, op := Op.extract (Operand.tmp 53) 1, type := 68, pos := "match.go:169", after := #[{ on := 9, ground := Ground.data }, { on := 14, ground := Ground.gcOnly Departure.lateStores }], guard := none } : Oper)) rfl (fun K hK => ?_) ?_
              · go_simp
                have hHeld2 : (show World → Prop from fun W1 => Below W3.drew.heap.size W3.drew W1) _ := hHeld
                refine hK.out _ _ (Or.inr hHeld2) (fun _ => ?_)
                clear hK K hHeld
                try clear hb
                have hHeld := hHeld2
                clear hHeld2
                try simp only [Act.put, List.setIfInBounds_toArray, List.set_cons_zero, List.set_cons_succ]
                refine wpAnyE_ready (rs := [14]) (by kernel_rfl) (by simp) ?_
                refine AllReadyE.cons (o := ({ dst := none, op := Op.store 68 (Operand.tmp 11) (Operand.tmp 63), type := 0, pos := "match.go:169", after := #[{ on := 12, ground := Ground.data }, { on := 10, ground := Ground.data }, { on := 8, ground := Ground.chain }, { on := 0, ground := Ground.phase }, { on := 1, ground := Ground.phase }, { on := 2, ground := Ground.phase }, { on := 3, ground := Ground.phase }, { on := 4, ground := Ground.phase }, { on := 5, ground := Ground.phase }, { on := 6, ground := Ground.phase }, { on := 7, ground := Ground.phase }, { on := 8, ground := Ground.phase }, { on := 9, ground := Ground.phase }, { on := 10, ground := Ground.phase }, { on := 11, ground := Ground.textOnly Departure.lateStores }, { on := 12, ground := Ground.phase }, { on := 13, ground := Ground.phase }], guard := none } : Oper)) rfl (fun K hK => ?_) AllReadyE.nil
                rw [if_pos (by rfl)]
                refine wp_store_known 68 (.tmp 11) (.tmp 63) rfl ⟨ga, 0, none⟩ (.agg (faceC fe)) rfl rfl (store_face face0 _ _ ga _ HA.out) ?_
                have HB3 := Lib.hid (below_setRow hHeld HLA.out (faceC fe))
                have HC3 := Lib.hid ((setRow_other _ ga gc (faceC fe) (Ne.symm HNE.out)).trans HC.out)
                have HA3 := Lib.hid (setRow_heap _ ga _ (faceC fe) _ _ HA.out)
                refine hK.out _ _ (Or.inl ⟨14, by simp, by kernel_rfl⟩) (fun _ => ?_)
                clear hK K
                try clear hHeld
                try clear hb
                try simp only [Act.put, List.setIfInBounds_toArray, List.set_cons_zero, List.set_cons_succ]
                refine wpAnyE_ready (rs := [15]) (by kernel_rfl) (by simp) ?_
                refine AllReadyE.cons (o := ({ dst := none, op := Op.store 68 (Operand.tmp 12) (Operand.tmp 64), type := 0, pos := "match.go:169", after := #[{ on := 13, ground := Ground.data }, { on := 11, ground := Ground.data }, { on := 14, ground := Ground.chain }, { on := 0, ground := Ground.phase }, { on := 1, ground := Ground.phase }, { on := 2, ground := Ground.phase }, { on := 3, ground := Ground.phase }, { on := 4, ground := Ground.phase }, { on := 5, ground := Ground.phase }, { on := 6, ground := Ground.phase }, { on := 7, ground := Ground.phase }, { on := 8, ground := Ground.phase }, { on := 9, ground := Ground.phase }, { on := 10, ground := Ground.phase }, { on := 11, ground := Ground.phase }, { on := 12, ground := Ground.phase }, { on := 13, ground := Ground.phase }, { on := 14, ground := Ground.phase }], guard := none } : Oper)) rfl (fun K hK => ?_) AllReadyE.nil
                rw [if_pos (by rfl)]
                refine wp_store_known 68 (.tmp 12) (.tmp 64) rfl ⟨gc, 0, none⟩ (.agg (faceC fo)) rfl rfl (store_face face0 _ _ gc _ HC3.out) ?_
                have HB4 := Lib.hid (below_setRow HB3.out HLC.out (faceC fo))
                have HA4 := Lib.hid ((setRow_other _ gc ga (faceC fo) HNE.out).trans HA3.out)
                refine hK.out _ _ (Or.inl ⟨15, by simp, by kernel_rfl⟩) (fun _ => ?_)
                clear hK K
                try clear hHeld
                try clear hb
                try simp only [Act.put, List.setIfInBounds_toArray, List.set_cons_zero, List.set_cons_succ]
                refine wpAnyE_done (by kernel_rfl) ?_ _
                refine HK10.out _ _ ?_
                exact cancel10 (f := fe) _ _ _ _ _ _ _ _ _ _ _ _ _ _ _ _ _ _ _ _ _ _ _ _ _ _ _ _ _ _ _ _ _ _ _ _ _ _ _ _ _ _ _ _ _ _ _ _ _ _ _ _ _ _ _ _ _ _ _ _ _ _ _ _ _ _ _ _ _ _ _ _ _ _ _ _ _ _ _ _ _ _ _ _ _ _ _ _ _ _ _ _ _ _ _ _ _ _ _ _ _ _ _ _ _ _ _ _ _ _ _ _ _ _ _ _ _ _ _ _ _ _ _ _ _ _ _ _ (HM0.out.grow HB4.out) (HR0.out.grow HB4.out) HWW.out HFW.out HA4.out (blk_none HX0.out (gb_below HB4.out)) HNQ.out HQ.out HS.out HI0.out HND.out (fun c1 a1 a2 w1 h hd1 => ⟨hd1.trans h.1, h.2⟩) (fun T W' v' h1 h2 hm hr => bodyPost_ret (results_tmp2 rfl _ _ _) rfl (show Φ (.returned (.tuple #[T.getD 6 undef, T.getD 7 undef])) W' by rw [h1, h2]; exact HOP.out i j i0 q v' W' HI.out HIP.out HIR.out HTW.out HG.out HPP.out HQ.out (by rw [← HFE.out]; exact HS.out) (by rw [← HFE.out]; exact HLQ.out) HI0.out hm hr))
              refine AllReadyE.cons (o := ({ dst := none, op := Op.store 68 (Operand.tmp 11) (Operand.tmp 63), type := 0, pos := "match.go:169", after := #[{ on := 12, ground := Ground.data }, { on := 10, ground := Ground.data }, { on := 8, ground := Ground.chain }, { on := 0, ground := Ground.phase }, { on := 1, ground := Ground.phase }, { on := 2, ground := Ground.phase }, { on := 3, ground := Ground.phase }, { on := 4, ground := Ground.phase }, { on := 5, ground := Ground.phase }, { on := 6, ground := Ground.phase }, { on := 7, ground := Ground.phase }, { on := 8, ground := Ground.phase }, { on := 9, ground := Ground.phase }, { on := 10, ground := Ground.phase }, { on := 11, ground := Ground.textOnly Departure.lateStores }, { on := 12, ground := Ground.phase }, { on := 13, ground := Ground.phase }], guard := none } : Oper)) rfl (fun K hK => ?_) AllReadyE.nil
              · rw [if_pos (by rfl)]
                refine wp_store_known 68 (.tmp 11) (.tmp 63) rfl ⟨ga, 0, none⟩ (.agg (faceC fe)) rfl rfl (store_face face0 _ _ ga _ HA.out) ?_
                have HB3 := Lib.hid (below_setRow hHeld HLA.out (faceC fe))
                have HC3 := Lib.hid ((setRow_other _ ga gc (faceC fe) (Ne.symm HNE.out)).trans HC.out)
                have HA3 := Lib.hid (setRow_heap _ ga _ (faceC fe) _ _ HA.out)
                refine hK.out _ _ (Or.inl ⟨14, by simp, by kernel_rfl⟩) (fun _ => ?_)
                clear hK K
                try clear hHeld
                try clear hb
                try simp only [Act.put, List.setIfInBounds_toArray, List.set_cons_zero, List.set_cons_succ]
                refine wpAnyE_ready (rs := [11]) (by kernel_rfl) (by simp) ?_
                refine AllReadyE.cons (o := ({ dst := some 64, op := Op.extract (Operand.tmp 53) 1, type := 68, pos := "match.go:169", after := #[{ on := 9, ground := Ground.data }, { on := 14, ground := Ground.gcOnly Departure.lateStores }], guard := none } : Oper)) rfl (fun K hK => ?_) AllReadyE.nil
                go_simp
                refine hK.out _ _ (Or.inl ⟨14, by simp, by kernel_rfl⟩) (fun _ => ?_)
                clear hK K
                try clear hHeld
                try clear hb
                try simp only [Act.put, List.setIfInBounds_toArray, List.set_cons_zero, List.set_cons_succ]
                refine wpAnyE_ready (rs := [15]) (by kernel_rfl) (by simp) ?_
                refine AllReadyE.cons (o := ({ dst := none, op := Op.store 68 (Operand.tmp 12) (Operand.tmp 64), type := 0, pos := "match.go:169", after := #[{ on := 13, ground := Ground.data }, { on := 11, ground := Ground.data }, { on := 14, ground := Ground.chain }, { on := 0, ground := Ground.phase }, { on := 1, ground := Ground.phase }, { on := 2, ground := Ground.phase }, { on := 3, ground := Ground.phase }, { on := 4, ground := Ground.phase }, { on := 5, ground := Ground.phase }, { on := 6, ground := Ground.phase }, { on := 7, ground := Ground.phase }, { on := 8, ground := Ground.phase }, { on := 9, ground := Ground.phase }, { on := 10, ground := Ground.phase }, { on := 11, ground := Ground.phase }, { on := 12, ground := Ground.phase }, { on := 13, ground := Ground.phase }, { on := 14, ground := Ground.phase }], guard := none } : Oper)) rfl (fun K hK => ?_) AllReadyE.nil
                rw [if_pos (by rfl)]
                refine wp_store_known 68 (.tmp 12) (.tmp 64) rfl ⟨gc, 0, none⟩ (.agg (faceC fo)) rfl rfl (store_face face0 _ _ gc _ HC3.out) ?_
                have HB4 := Lib.hid (below_setRow HB3.out HLC.out (faceC fo))
                have HA4 := Lib.hid ((setRow_other _ gc ga (faceC fo) HNE.out).trans HA3.out)
                refine hK.out _ _ (Or.inl ⟨15, by simp, by kernel_rfl⟩) (fun _ => ?_)
                clear hK K
                try clear hHeld
                try clear hb
                try simp only [Act.put, List.setIfInBounds_toArray, List.set_cons_zero, List.set_cons_succ]
                refine wpAnyE_done (by kernel_rfl) ?_ _
                refine HK10.out _ _ ?_
                exact cancel10 (f := fe) _ _ _ _ _ _ _ _ _ _ _ _ _ _ _ _ _ _ _ _ _ _ _ _ _ _ _ _ _ _ _ _ _ _ _ _ _ _ _ _ _ _ _ _ _ _ _ _ _ _ _ _ _ _ _ _ _ _ _ _ _ _ _ _ _ _ _ _ _ _ _ _ _ _ _ _ _ _ _ _ _ _ _ _ _ _ _ _ _ _ _ _ _ _ _ _ _ _ _ _ _ _ _ _ _ _ _ _ _ _ _ _ _ _ _ _ _ _ _ _ _ _ _ _ _ _ _ _ (HM0.out.grow HB4.out) (HR0.out.grow HB4.out) HWW.out HFW.out HA4.out (blk_none HX0.out (gb_below HB4.out)) HNQ.out HQ.out HS.out HI0.out HND.out (fun c1 a1 a2 w1 h hd1 => ⟨hd1.trans h.1, h.2⟩) (fun T W' v' h1 h2 hm hr => bodyPost_ret (results_tmp2 rfl _ _ _) rfl (show Φ (.returned (.tuple #[T.getD 6 undef, T.getD 7 undef])) W' by rw [h1, h2]; exact HOP.out i j i0 q v' W' HI.out HIP.out HIR.out HTW.out HG.out HPP.out HQ.out (by rw [← HFE.out]; exact HS.out) (by rw [← HFE.out]; exact HLQ.out) HI0.out hm hr))
          refine AllReadyE.cons (o := ({ dst := some 12, op := Op.alloc 68, type := 0, pos := "match.go:169", after := #[], guard := none } : Oper)) rfl (fun K hK => ?_) AllReadyE.nil
          · rw [if_pos (by rfl)]
            refine wp_alloc_known 68 rfl (faceC face0) (alloc_face _) ?_
            intro W4 gc hb2 hgc hlc
            have HLC := Lib.hid (Nat.le_trans hHeld.size hlc)
            try (have HNE : Hid (ga ≠ gc) := Lib.hid (fun e => by have := (Array.getElem?_eq_some_iff.1 HA.out).1; omega))
            try (have HA := Lib.hid (blk_none HA.out (gb_below hb2)))
            have HC := Lib.hid hgc
            clear hgc hlc
            have hHeld2 : (show World → Prop from fun W1 => Below W3.drew.heap.size W3.drew W1) _ := bl_then hHeld hb2
            refine hK.out _ _ (Or.inr hHeld2) (fun _ => ?_)
            clear hK K hHeld
            try clear hb
            have hHeld := hHeld2
            clear hHeld2
            try simp only [Act.put, List.setIfInBounds_toArray, List.set_cons_zero, List.set_cons_succ]
            refine wpAnyE_ready (rs := [11, 12]) (by kernel_rfl) (by simp) ?_
            refine AllReadyE.cons (o := ({ dst := some 64, op := Op.extract (Operand.tmp 53) 1, type := 68, pos := "match.go:169", after := #[{ on := 9, ground := Ground.data }, { on := 14, ground := Ground.gcOnly Departure.lateStores }], guard := none } : Oper)) rfl (fun K hK => ?_) ?_
            · go_simp
              have hHeld2 : (show World → Prop from fun W1 => Below W3.drew.heap.size W3.drew W1) _ := hHeld
              refine hK.out _ _ (Or.inr hHeld2) (fun _ => ?_)
              clear hK K hHeld
              try clear hb
              have hHeld := hHeld2
              clear hHeld2
              try simp only [Act.put, List.setIfInBounds_toArray, List.set_cons_zero, List.set_cons_succ]
              refine wpAnyE_ready (rs := [12]) (by kernel_rfl) (by simp) ?_
              refine AllReadyE.cons (o := ({ dst := some 11, op := Op.alloc 68, type := 0, pos := "match.go:169", after := #[], guard := none } : Oper)) rfl (fun K hK => ?_) AllReadyE.nil
              rw [if_pos (by rfl)]
              refine wp_alloc_known 68 rfl (faceC face0) (alloc_face _) ?_
              intro W4 ga hb2 hga hla
              have HLA := Lib.hid (Nat.le_trans hHeld.size hla)
              try (have HNE : Hid (ga ≠ gc) := Lib.hid (fun e => by have := (Array.getElem?_eq_some_iff.1 HC.out).1; omega))
              try (have HC := Lib.hid (blk_none HC.out (gb_below hb2)))
              have HA := Lib.hid hga
              clear hga hla
              have hHeld2 : (show World → Prop from fun W1 => Below W3.drew.heap.size W3.drew W1) _ := bl_then hHeld hb2
              refine hK.out _ _ (Or.inr hHeld2) (fun _ => ?_)
              clear hK K hHeld
              try clear hb
              have hHeld := hHeld2
              clear hHeld2
              try simp only [Act.put, List.setIfInBounds_toArray, List.set_cons_zero, List.set_cons_succ]
              refine wpAnyE_ready (rs := [14]) (by kernel_rfl) (by simp) ?_
              refine AllReadyE.cons (o := ({ dst := none, op := Op.store 68 (Operand.tmp 11) (Operand.tmp 63), type := 0, pos := "match.go:169", after := #[{ on := 12, ground := Ground.data }, { on := 10, ground := Ground.data }, { on := 8, ground := Ground.chain }, { on := 0, ground := Ground.phase }, { on := 1, ground := Ground.phase }, { on := 2, ground := Ground.phase }, { on := 3, ground := Ground.phase }, { on := 4, ground := Ground.phase }, { on := 5, ground := Ground.phase }, { on := 6, ground := Ground.phase }, { on := 7, ground := Ground.phase }, { on := 8, ground := Ground.phase }, { on := 9, ground := Ground.phase }, { on := 10, ground := Ground.phase }, { on := 11, ground := Ground.textOnly Departure.lateStores }, { on := 12, ground := Ground.phase }, { on := 13, ground := Ground.phase }], guard := none } : Oper)) rfl (fun K hK => ?_) AllReadyE.nil
              rw [if_pos (by rfl)]
              refine wp_store_known 68 (.tmp 11) (.tmp 63) rfl ⟨ga, 0, none⟩ (.agg (faceC fe)) rfl rfl (store_face face0 _ _ ga _ HA.out) ?_
              have HB3 := Lib.hid (below_setRow hHeld HLA.out (faceC fe))
              have HC3 := Lib.hid ((setRow_other _ ga gc (faceC fe) (Ne.symm HNE.out)).trans HC.out)
              have HA3 := Lib.hid (setRow_heap _ ga _ (faceC fe) _ _ HA.out)
              refine hK.out _ _ (Or.inl ⟨14, by simp, by kernel_rfl⟩) (fun _ => ?_)
              clear hK K
              try clear hHeld
              try clear hb
              try simp only [Act.put, List.setIfInBounds_toArray, List.set_cons_zero, List.set_cons_succ]
              refine wpAnyE_ready (rs := [15]) (by kernel_rfl) (by simp) ?_
              refine AllReadyE.cons (o := ({ dst := none, op := Op.store 68 (Operand.tmp 12) (Operand.tmp 64), type := 0, pos := "match.go:169", after := #[{ on := 13, ground := Ground.data }, { on := 11, ground := Ground.data }, { on := 14, ground := Ground.chain }, { on := 0, ground := Ground.phase }, { on := 1, ground := Ground.phase }, { on := 2, ground := Ground.phase }, { on := 3, ground := Ground.phase }, { on := 4, ground := Ground.phase }, { on := 5, ground := Ground.phase }, { on := 6, ground := Ground.phase }, { on := 7, ground := Ground.phase }, { on := 8, ground := Ground.phase }, { on := 9, ground := Ground.phase }, { on := 10, ground := Ground.phase }, { on := 11, ground := Ground.phase }, { on := 12, ground := Ground.phase }, { on := 13, ground := Ground.phase }, { on := 14, ground := Ground.phase }], guard := none } : Oper)) rfl (fun K hK => ?_) AllReadyE.nil
              rw [if_pos (by rfl)]
              refine wp_store_known 68 (.tmp 12) (.tmp 64) rfl ⟨gc, 0, none⟩ (.agg (faceC fo)) rfl rfl (store_face face0 _ _ gc _ HC3.out) ?_
              have HB4 := Lib.hid (below_setRow HB3.out HLC.out (faceC fo))
              have HA4 := Lib.hid ((setRow_other _ gc ga (faceC fo) HNE.out).trans HA3.out)
              refine hK.out _ _ (Or.inl ⟨15, by simp, by kernel_rfl⟩) (fun _ => ?_)
              clear hK K
              try clear hHeld
              try clear hb
              try simp only [Act.put, List.setIfInBounds_toArray, List.set_cons_zero, List.set_cons_succ]
              refine wpAnyE_done (by kernel_rfl) ?_ _
              refine HK10.out _ _ ?_
              exact cancel10 (f := fe) _ _ _ _ _ _ _ _ _ _ _ _ _ _ _ _ _ _ _ _ _ _ _ _ _ _ _ _ _ _ _ _ _ _ _ _ _ _ _ _ _ _ _ _ _ _ _ _ _ _ _ _ _ _ _ _ _ _ _ _ _ _ _ _ _ _ _ _ _ _ _ _ _ _ _ _ _ _ _ _ _ _ _ _ _ _ _ _ _ _ _ _ _ _ _ _ _ _ _ _ _ _ _ _ _ _ _ _ _ _ _ _ _ _ _ _ _ _ _ _ _ _ _ _ _ _ _ _ (HM0.out.grow HB4.out) (HR0.out.grow HB4.out) HWW.out HFW.out HA4.out (blk_none HX0.out (gb_below HB4.out)) HNQ.out HQ.out HS.out HI0.out HND.out (fun c1 a1 a2 w1 h hd1 => ⟨hd1.trans h.1, h.2⟩) (fun T W' v' h1 h2 hm hr => bodyPost_ret (results_tmp2 rfl _ _ _) rfl (show Φ (.returned (.tuple #[T.getD 6 undef, T.getD 7 undef])) W' by rw [h1, h2]; exact HOP.out i j i0 q v' W' HI.out HIP.out HIR.out HTW.out HG.out HPP.out HQ.out (by rw [← HFE.out]; exact HS.out) (by rw [← HFE.out]; exact HLQ.out) HI0.out hm hr))
            refine AllReadyE.cons (o := ({ dst := some 11, op := Op.alloc 68, type := 0, pos := "match.go:169", after := #[], guard := none } : Oper)) rfl (fun K hK => ?_) AllReadyE.nil
            · rw [if_pos (by rfl)]
              refine wp_alloc_known 68 rfl (faceC face0) (alloc_face _) ?_
              intro W4 ga hb2 hga hla
              have HLA := Lib.hid (Nat.le_trans hHeld.size hla)
              try (have HNE : Hid (ga ≠ gc) := Lib.hid (fun e => by have := (Array.getElem?_eq_some_iff.1 HC.out).1; omega))
              try (have HC := Lib.hid (blk_none HC.out (gb_below hb2)))
              have HA := Lib.hid hga
              clear hga hla
              have hHeld2 : (show World → Prop from fun W1 => Below W3.drew.heap.size W3.drew W1) _ := bl_then hHeld hb2
              refine hK.out _ _ (Or.inr hHeld2) (fun _ => ?_)
              clear hK K hHeld
              try clear hb
              have hHeld := hHeld2
              clear hHeld2
              try simp only [Act.put, List.setIfInBounds_toArray, List.set_cons_zero, List.set_cons_succ]
              refine wpAnyE_ready (rs := [11, 14]) (by kernel_rfl) (by simp) ?_
              refine AllReadyE.cons (o := ({ dst := some 64, op := Op.extract (Operand.tmp 53) 1, type := 68, pos := "match.go:169", after := #[{ on := 9, ground := Ground.data }, { on := 14, ground := Ground.gcOnly Departure.lateStores }], guard := none } : Oper)) rfl (fun K hK => ?_) ?_
              · go_simp
                have hHeld2 : (show World → Prop from fun W1 => Below W3.drew.heap.size W3.drew W1) _ := hHeld
                refine hK.out _ _ (Or.inr hHeld2) (fun _ => ?_)
                clear hK K hHeld
                try clear hb
                have hHeld := hHeld2
                clear hHeld2
                try simp only [Act.put, List.setIfInBounds_toArray, List.set_cons_zero, List.set_cons_succ]
                refine wpAnyE_ready (rs := [14]) (by kernel_rfl) (by simp) ?_
                refine AllReadyE.cons (o := ({ dst := none, op := Op.store 68 (Operand.tmp 11) (Operand.tmp 63), type := 0, pos := "match.go:169", after := #[{ on := 12, ground := Ground.data }, { on := 10, ground := Ground.data }, { on := 8, ground := Ground.chain }, { on := 0, ground := Ground.phase }, { on := 1, ground := Ground.phase }, { on := 2, ground := Ground.phase }, { on := 3, ground := Ground.phase }, { on := 4, ground := Ground.phase }, { on := 5, ground := Ground.phase }, { on := 6, ground := Ground.phase }, { on := 7, ground := Ground.phase }, { on := 8, ground := Ground.phase }, { on := 9, ground := Ground.phase }, { on := 10, ground := Ground.phase }, { on := 11, ground := Ground.textOnly Departure.lateStores }, { on := 12, ground := Ground.phase }, { on := 13, ground := Ground.phase }], guard := none } : Oper)) rfl (fun K hK => ?_) AllReadyE.nil
                rw [if_pos (by rfl)]
                refine wp_store_known 68 (.tmp 11) (.tmp 63) rfl ⟨ga, 0, none⟩ (.agg (faceC fe)) rfl rfl (store_face face0 _ _ ga _ HA.out) ?_
                have HB3 := Lib.hid (below_setRow hHeld HLA.out (faceC fe))
                have HC3 := Lib.hid ((setRow_other _ ga gc (faceC fe) (Ne.symm HNE.out)).trans HC.out)
                have HA3 := Lib.hid (setRow_heap _ ga _ (faceC fe) _ _ HA.out)
                refine hK.out _ _ (Or.inl ⟨14, by simp, by kernel_rfl⟩) (fun _ => ?_)
                clear hK K
                try clear hHeld
                try clear hb
                try simp only [Act.put, List.setIfInBounds_toArray, List.set_cons_zero, List.set_cons_succ]
                refine wpAnyE_ready (rs := [15]) (by kernel_rfl) (by simp) ?_
                refine AllReadyE.cons (o := ({ dst := none, op := Op.store 68 (Operand.tmp 12) (Operand.tmp 64), type := 0, pos := "match.go:169", after := #[{ on := 13, ground := Ground.data }, { on := 11, ground := Ground.data }, { on := 14, ground := Ground.chain }, { on := 0, ground := Ground.phase }, { on := 1, ground := Ground.phase }, { on := 2, ground := Ground.phase }, { on := 3, ground := Ground.phase }, { on := 4, ground := Ground.phase }, { on := 5, ground := Ground.phase }, { on := 6, ground := Ground.phase }, { on := 7, ground := Ground.phase }, { on := 8, ground := Ground.phase }, { on := 9, ground := Ground.phase }, { on := 10, ground := Ground.phase }, { on := 11, ground := Ground.phase }, { on := 12, ground := Ground.phase }, { on := 13, ground := Ground.phase }, { on := 14, ground := Ground.phase }], guard := none } : Oper)) rfl (fun K hK => ?_) AllReadyE.nil
                rw [if_pos (by rfl)]
                refine wp_store_known 68 (.tmp 12) (.tmp 64) rfl ⟨gc, 0, none⟩ (.agg (faceC fo)) rfl rfl (store_face face0 _ _ gc _ HC3.out) ?_
                have HB4 := Lib.hid (below_setRow HB3.out HLC.out (faceC fo))
                have HA4 := Lib.hid ((setRow_other _ gc ga (faceC fo) HNE.out).trans HA3.out)
                refine hK.out _ _ (Or.inl ⟨15, by simp, by kernel_rfl⟩) (fun _ => ?_)
                clear hK K
                try clear hHeld
                try clear hb
                try simp only [Act.put, List.setIfInBounds_toArray, List.set_cons_zero, List.set_cons_succ]
                refine wpAnyE_done (by kernel_rfl) ?_ _
                refine HK10.out _ _ ?_
                exact cancel10 (f := fe) _ _ _ _ _ _ _ _ _ _ _ _ _ _ _ _ _ _ _ _ _ _ _ _ _ _ _ _ _ _ _ _ _ _ _ _ _ _ _ _ _ _ _ _ _ _ _ _ _ _ _ _ _ _ _ _ _ _ _ _ _ _ _ _ _ _ _ _ _ _ _ _ _ _ _ _ _ _ _ _ _ _ _ _ _ _ _ _ _ _ _ _ _ _ _ _ _ _ _ _ _ _ _ _ _ _ _ _ _ _ _ _ _ _ _ _ _ _ _ _ _ _ _ _ _ _ _ _ (HM0.out.grow HB4.out) (HR0.out.grow HB4.out) HWW.out HFW.out HA4.out (blk_none HX0.out (gb_below HB4.out)) HNQ.out HQ.out HS.out HI0.out HND.out (fun c1 a1 a2 w1 h hd1 => ⟨hd1.trans h.1, h.2⟩) (fun T W' v' h1 h2 hm hr => bodyPost_ret (results_tmp2 rfl _ _ _) rfl (show Φ (.returned (.tuple #[T.getD 6 undef, T.getD 7 undef])) W' by rw [h1, h2]; exact HOP.out i j i0 q v' W' HI.out HIP.out HIR.out HTW.out HG.out HPP.out HQ.out (by rw [← HFE.out]; exact HS.out) (by rw [← HFE.out]; exact HLQ.out) HI0.out hm hr))
              refine AllReadyE.cons (o := ({ dst := none, op := Op.store 68 (Operand.tmp 11) (Operand.tmp 63), type := 0, pos := "match.go:169", after := #[{ on := 12, ground := Ground.data }, { on := 10, ground := Ground.data }, { on := 8, ground := Ground.chain }, { on := 0, ground := Ground.phase }, { on := 1, ground := Ground.phase }, { on := 2, ground := Ground.phase }, { on := 3, ground := Ground.phase }, { on := 4, ground := Ground.phase }, { on := 5, ground := Ground.phase }, { on := 6, ground := Ground.phase }, { on := 7, ground := Ground.phase }, { on := 8, ground := Ground.phase }, { on := 9, ground := Ground.phase }, { on := 10, ground := Ground.phase }, { on := 11, ground := Ground.textOnly Departure.lateStores }, { on := 12, ground := Ground.phase }, { on := 13, ground := Ground.phase }], guard := none } : Oper)) rfl (fun K hK => ?_) AllReadyE.nil
              · rw [if_pos (by rfl)]
                refine wp_store_known 68 (.tmp 11) (.tmp 63) rfl ⟨ga, 0, none⟩ (.agg (faceC fe)) rfl rfl (store_face face0 _ _ ga _ HA.out) ?_
                have HB3 := Lib.hid (below_setRow hHeld HLA.out (faceC fe))
                have HC3 := Lib.hid ((setRow_other _ ga gc (faceC fe) (Ne.symm HNE.out)).trans HC.out)
                have HA3 := Lib.hid (setRow_heap _ ga _ (faceC fe) _ _ HA.out)
                refine hK.out _ _ (Or.inl ⟨14, by simp, by kernel_rfl⟩) (fun _ => ?_)
                clear hK K
                try clear hHeld
                try clear hb
                try simp only [Act.put, List.setIfInBounds_toArray, List.set_cons_zero, List.set_cons_succ]
                refine wpAnyE_ready (rs := [11]) (by kernel_rfl) (by simp) ?_
                refine AllReadyE.cons (o := ({ dst := some 64, op := Op.extract (Operand.tmp 53) 1, type := 68, pos := "match.go:169", after := #[{ on := 9, ground := Ground.data }, { on := 14, ground := Ground.gcOnly Departure.lateStores }], guard := none } : Oper)) rfl (fun K hK => ?_) AllReadyE.nil
                go_simp
                refine hK.out _ _ (Or.inl ⟨14, by simp, by kernel_rfl⟩) (fun _ => ?_)
                clear hK K
                try clear hHeld
                try clear hb
                try simp only [Act.put, List.setIfInBounds_toArray, List.set_cons_zero, List.set_cons_succ]
                refine wpAnyE_ready (rs := [15]) (by kernel_rfl) (by simp) ?_
                refine AllReadyE.cons (o := ({ dst := none, op := Op.store 68 (Operand.tmp 12) (Operand.tmp 64), type := 0, pos := "match.go:169", after := #[{ on := 13, ground := Ground.data }, { on := 11, ground := Ground.data }, { on := 14, ground := Ground.chain }, { on := 0, ground := Ground.phase }, { on := 1, ground := Ground.phase }, { on := 2, ground := Ground.phase }, { on := 3, ground := Ground.phase }, { on := 4, ground := Ground.phase }, { on := 5, ground := Ground.phase }, { on := 6, ground := Ground.phase }, { on := 7, ground := Ground.phase }, { on := 8, ground := Ground.phase }, { on := 9, ground := Ground.phase }, { on := 10, ground := Ground.phase }, { on := 11, ground := Ground.phase }, { on := 12, ground := Ground.phase }, { on := 13, ground := Ground.phase }, { on := 14, ground := Ground.phase }], guard := none } : Oper)) rfl (fun K hK => ?_) AllReadyE.nil
                rw [if_pos (by rfl)]
                refine wp_store_known 68 (.tmp 12) (.tmp 64) rfl ⟨gc, 0, none⟩ (.agg (faceC fo)) rfl rfl (store_face face0 _ _ gc _ HC3.out) ?_
                have HB4 := Lib.hid (below_setRow HB3.out HLC.out (faceC fo))
                have HA4 := Lib.hid ((setRow_other _ gc ga (faceC fo) HNE.out).trans HA3.out)
                refine hK.out _ _ (Or.inl ⟨15, by simp, by kernel_rfl⟩) (fun _ => ?_)
                clear hK K
                try clear hHeld
                try clear hb
                try simp only [Act.put, List.setIfInBounds_toArray, List.set_cons_zero, List.set_cons_succ]
                refine wpAnyE_done (by kernel_rfl) ?_ _
                refine HK10.out _ _ ?_
                exact cancel10 (f := fe) _ _ _ _ _ _ _ _ _ _ _ _ _ _ _ _ _ _ _ _ _ _ _ _ _ _ _ _ _ _ _ _ _ _ _ _ _ _ _ _ _ _ _ _ _ _ _ _ _ _ _ _ _ _ _ _ _ _ _ _ _ _ _ _ _ _ _ _ _ _ _ _ _ _ _ _ _ _ _ _ _ _ _ _ _ _ _ _ _ _ _ _ _ _ _ _ _ _ _ _ _ _ _ _ _ _ _ _ _ _ _ _ _ _ _ _ _ _ _ _ _ _ _ _ _ _ _ _ (HM0.out.grow HB4.out) (HR0.out.grow HB4.out) HWW.out HFW.out HA4.out (blk_none HX0.out (gb_below HB4.out)) HNQ.out HQ.out HS.out HI0.out HND.out (fun c1 a1 a2 w1 h hd1 => ⟨hd1.trans h.1, h.2⟩) (fun T W' v' h1 h2 hm hr => bodyPost_ret (results_tmp2 rfl _ _ _) rfl (show Φ (.returned (.tuple #[T.getD 6 undef, T.getD 7 undef])) W' by rw [h1, h2]; exact HOP.out i j i0 q v' W' HI.out HIP.out HIR.out HTW.out HG.out HPP.out HQ.out (by rw [← HFE.out]; exact HS.out) (by rw [← HFE.out]; exact HLQ.out) HI0.out hm hr))
        refine AllReadyE.cons (o := ({ dst := some 11, op := Op.alloc 68, type := 0, pos := "match.go:169", after := #[], guard := none } : Oper)) rfl (fun K hK => ?_) ?_
        · rw [if_pos (by rfl)]
          refine wp_alloc_known 68 rfl (faceC face0) (alloc_face _) ?_
          intro W4 ga hb2 hga hla
          have HLA := Lib.hid (Nat.le_trans hHeld.size hla)
          try (have HNE : Hid (ga ≠ gc) := Lib.hid (fun e => by have := (Array.getElem?_eq_some_iff.1 HC.out).1; omega))
          try (have HC := Lib.hid (blk_none HC.out (gb_below hb2)))
          have HA := Lib.hid hga
          clear hga hla
          have hHeld2 : (show World → Prop from fun W1 => Below W3.drew.heap.size W3.drew W1) _ := bl_then hHeld hb2
          refine hK.out _ _ (Or.inr hHeld2) (fun _ => ?_)
          clear hK K hHeld
          try clear hb
          have hHeld := hHeld2
          clear hHeld2
          try simp only [Act.put, List.setIfInBounds_toArray, List.set_cons_zero, List.set_cons_succ]
          refine wpAnyE_ready (rs := [8, 13]) (by kernel_rfl) (by simp) ?_
          refine AllReadyE.cons (o := ({ dst := some 62, op := Op.call { callee := Callee.value (Operand.func 23), args := #[Operand.tmp 57, Operand.tmp 61], argTypes := #[28, 29] }, type := 69, pos := "match.go:169", after := #[{ on := 3, ground := Ground.data }, { on := 7, ground := Ground.data }], guard := none } : Oper)) rfl (fun K hK => ?_) ?_
          · go_simp
            go_at_call 23
            (with_reducible refine (HFO.out _ hHeld).mono ?_)
            rintro e1 W4 ⟨rfl, hb2⟩
            try (have HA := Lib.hid (blk_none HA.out (gb_below hb2)))
            try (have HC := Lib.hid (blk_none HC.out (gb_below hb2)))
            have hHeld2 : (show World → Prop from fun W1 => Below W3.drew.heap.size W3.drew W1) _ := bl_then hHeld hb2
            refine hK.out _ _ (Or.inr hHeld2) (fun _ => ?_)
            clear hK K hHeld
            try clear hb
            have hHeld := hHeld2
            clear hHeld2
            try simp only [Act.put, List.setIfInBounds_toArray, List.set_cons_zero, List.set_cons_succ]
            refine wpAnyE_take (i := 9) (oi := ({ dst := some 53, op := Op.move (Operand.tmp 62), type := 69, pos := "match.go:169", after := #[{ on := 8, ground := Ground.data }], guard := none } : Oper)) (v := ?_) rfl (by kernel_rfl) (by kernel_rfl) (by kernel_rfl) (by kernel_rfl) (fun _ _ _ h => h) (Or.inl ⟨by rfl, ?_⟩) hHeld ?_
            rotate_left
            · intro w' hSw; (try dsimp only at hSw); go_simp <;> with_reducible rfl
            try simp only [Act.put, List.setIfInBounds_toArray, List.set_cons_zero, List.set_cons_succ]
            refine wpAnyE_take (i := 10) (oi := ({ dst := some 63, op := Op.extract (Operand.tmp 53) 0, type := 68, pos := "match.go:169", after := #[{ on := 9, ground := Ground.data }], guard := none } : Oper)) (v := ?_) rfl (by kernel_rfl) (by kernel_rfl) (by kernel_rfl) (by kernel_rfl) (fun _ _ _ h => h) (Or.inl ⟨by rfl, ?_⟩) hHeld ?_
            rotate_left
            · intro w' hSw; (try dsimp only at hSw); go_simp <;> with_reducible rfl
            try simp only [Act.put, List.setIfInBounds_toArray, List.set_cons_zero, List.set_cons_succ]
            refine wpAnyE_ready (rs := [11, 13]) (by kernel_rfl) (by simp) ?_
            refine AllReadyE.cons (o := ({ dst := some 64, op := Op.extract (Operand.tmp 53) 1, type := 68, pos := "match.go:169", after := #[{ on := 9, ground := Ground.data }, { on := 14, ground := Ground.gcOnly Departure.lateStores }], guard := none } : Oper)) rfl (fun K hK => ?_) ?_
            · go_simp
              have hHeld2 : (show World → Prop from fun W1 => Below W3.drew.heap.size W3.drew W1) _ := hHeld
              refine hK.out _ _ (Or.inr hHeld2) (fun _ => ?_)
              clear hK K hHeld
              try clear hb
              have hHeld := hHeld2
              clear hHeld2
              try simp only [Act.put, List.setIfInBounds_toArray, List.set_cons_zero, List.set_cons_succ]
              refine wpAnyE_ready (rs := [13]) (by kernel_rfl) (by simp) ?_
              refine AllReadyE.cons (o := ({ dst := some 12, op := Op.alloc 68, type := 0, pos := "match.go:169", after := #[], guard := none } : Oper)) rfl (fun K hK => ?_) AllReadyE.nil
              rw [if_pos (by rfl)]
              refine wp_alloc_known 68 rfl (faceC face0) (alloc_face _) ?_
              intro W4 gc hb2 hgc hlc
              have HLC := Lib.hid (Nat.le_trans hHeld.size hlc)
              try (have HNE : Hid (ga ≠ gc) := Lib.hid (fun e => by have := (Array.getElem?_eq_some_iff.1 HA.out).1; omega))
              try (have HA := Lib.hid (blk_none HA.out (gb_below hb2)))
              have HC := Lib.hid hgc
              clear hgc hlc
              have hHeld2 : (show World → Prop from fun W1 => Below W3.drew.heap.size W3.drew W1) _ := bl_then hHeld hb2
              refine hK.out _ _ (Or.inr hHeld2) (fun _ => ?_)
              clear hK K hHeld
              try clear hb
              have hHeld := hHeld2
              clear hHeld2
              try simp only [Act.put, List.setIfInBounds_toArray, List.set_cons_zero, List.set_cons_succ]
              refine wpAnyE_ready (rs := [14]) (by kernel_rfl) (by simp) ?_
              refine AllReadyE.cons (o := ({ dst := none, op := Op.store 68 (Operand.tmp 11) (Operand.tmp 63), type := 0, pos := "match.go:169", after := #[{ on := 12, ground := Ground.data }, { on := 10, ground := Ground.data }, { on := 8, ground := Ground.chain }, { on := 0, ground := Ground.phase }, { on := 1, ground := Ground.phase }, { on := 2, ground := Ground.phase }, { on := 3, ground := Ground.phase }, { on := 4, ground := Ground.phase }, { on := 5, ground := Ground.phase }, { on := 6, ground := Ground.phase }, { on := 7, ground := Ground.phase }, { on := 8, ground := Ground.phase }, { on := 9, ground := Ground.phase }, { on := 10, ground := Ground.phase }, { on := 11, ground := Ground.textOnly Departure.lateStores }, { on := 12, ground := Ground.phase }, { on := 13, ground := Ground.phase }], guard := none } : Oper)) rfl (fun K hK => ?_) AllReadyE.nil
              rw [if_pos (by rfl)]
              refine wp_store_known 68 (.tmp 11) (.tmp 63) rfl ⟨ga, 0, none⟩ (.agg (faceC fe)) rfl rfl (store_face face0 _ _ ga _ HA.out) ?_
              have HB3 := Lib.hid (below_setRow hHeld HLA.out (faceC fe))
              have HC3 := Lib.hid ((setRow_other _ ga gc (faceC fe) (Ne.symm HNE.out)).trans HC.out)
              have HA3 := Lib.hid (setRow_heap _ ga _ (faceC fe) _ _ HA.out)
              refine hK.out _ _ (Or.inl ⟨14, by simp, by kernel_rfl⟩) (fun _ => ?_)
              clear hK K
              try clear hHeld
              try clear hb
              try simp only [Act.put, List.setIfInBounds_toArray, List.set_cons_zero, List.set_cons_succ]
              refine wpAnyE_ready (rs := [15]) (by kernel_rfl) (by simp) ?_
              refine AllReadyE.cons (o := ({ dst := none, op := Op.store 68 (Operand.tmp 12) (Operand.tmp 64), type := 0, pos := "match.go:169", after := #[{ on := 13, ground := Ground.data }, { on := 11, ground := Ground.data }, { on := 14, ground := Ground.chain }, { on := 0, ground := Ground.phase }, { on := 1, ground := Ground.phase }, { on := 2, ground := Ground.phase }, { on := 3, ground := Ground.phase }, { on := 4, ground := Ground.phase }, { on := 5, ground := Ground.phase }, { on := 6, ground := Ground.phase }, { on := 7, ground := Ground.phase }, { on := 8, ground := Ground.phase }, { on := 9, ground := Ground.phase }, { on := 10, ground := Ground.phase }, { on := 11, ground := Ground.phase }, { on := 12, ground := Ground.phase }, { on := 13, ground := Ground.phase }, { on := 14, ground := Ground.phase }], guard := none } : Oper)) rfl (fun K hK => ?_) AllReadyE.nil
              rw [if_pos (by rfl)]
              refine wp_store_known 68 (.tmp 12) (.tmp 64) rfl ⟨gc, 0, none⟩ (.agg (faceC fo)) rfl rfl (store_face face0 _ _ gc _ HC3.out) ?_
              have HB4 := Lib.hid (below_setRow HB3.out HLC.out (faceC fo))
              have HA4 := Lib.hid ((setRow_other _ gc ga (faceC fo) HNE.out).trans HA3.out)
              refine hK.out _ _ (Or.inl ⟨15, by simp, by kernel_rfl⟩) (fun _ => ?_)
              clear hK K
              try clear hHeld
              try clear hb
              try simp only [Act.put, List.setIfInBounds_toArray, List.set_cons_zero, List.set_cons_succ]
              refine wpAnyE_done (by kernel_rfl) ?_ _
              refine HK10.out _ _ ?_
              exact cancel10 (f := fe) _ _ _ _ _ _ _ _ _ _ _ _ _ _ _ _ _ _ _ _ _ _ _ _ _ _ _ _ _ _ _ _ _ _ _ _ _ _ _ _ _ _ _ _ _ _ _ _ _ _ _ _ _ _ _ _ _ _ _ _ _ _ _ _ _ _ _ _ _ _ _ _ _ _ _ _ _ _ _ _ _ _ _ _ _ _ _ _ _ _ _ _ _ _ _ _ _ _ _ _ _ _ _ _ _ _ _ _ _ _ _ _ _ _ _ _ _ _ _ _ _ _ _ _ _ _ _ _ (HM0.out.grow HB4.out) (HR0.out.grow HB4.out) HWW.out HFW.out HA4.out (blk_none HX0.out (gb_below HB4.out)) HNQ.out HQ.out HS.out HI0.out HND.out (fun c1 a1 a2 w1 h hd1 => ⟨hd1.trans h.1, h.2⟩) (fun T W' v' h1 h2 hm hr => bodyPost_ret (results_tmp2 rfl _ _ _) rfl (show Φ (.returned (.tuple #[T.getD 6 undef, T.getD 7 undef])) W' by rw [h1, h2]; exact HOP.out i j i0 q v' W' HI.out HIP.out HIR.out HTW.out HG.out HPP.out HQ.out (by rw [← HFE.out]; exact HS.out) (by rw [← HFE.out]; exact HLQ.out) HI0.out hm hr))
            refine AllReadyE.cons (o := ({ dst := some 12, op := Op.alloc 68, type := 0, pos := "match.go:169", after := #[], guard := none } : Oper)) rfl (fun K hK => ?_) AllReadyE.nil
            · rw [if_pos (by rfl)]
              refine wp_alloc_known 68 rfl (faceC face0) (alloc_face _) ?_
              intro W4 gc hb2 hgc hlc
              have HLC := Lib.hid (Nat.le_trans hHeld.size hlc)
              try (have HNE : Hid (ga ≠ gc) := Lib.hid (fun e => by have := (Array.getElem?_eq_some_iff.1 HA.out).1; omega))
              try (have HA := Lib.hid (blk_none HA.out (gb_below hb2)))
              have HC := Lib.hid hgc
              clear hgc hlc
              have hHeld2 : (show World → Prop from fun W1 => Below W3.drew.heap.size W3.drew W1) _ := bl_then hHeld hb2
              refine hK.out _ _ (Or.inr hHeld2) (fun _ => ?_)
              clear hK K hHeld
              try clear hb
              have hHeld := hHeld2
              clear hHeld2
              try simp only [Act.put, List.setIfInBounds_toArray, List.set_cons_zero, List.set_cons_succ]
              refine wpAnyE_ready (rs := [11, 14]) (by kernel_rfl) (by simp) ?_
              refine AllReadyE.cons (o := ({ dst := some 64, op := Op.extract (Operand.tmp 53) 1, type := 68, pos := "match.go:169", after := #[{ on := 9, ground := Ground.data }, { on := 14, ground := Ground.gcOnly Departure.lateStores }], guard := none } : Oper)) rfl (fun K hK => ?_) ?_
              · go_simp
                have hHeld2 : (show World → Prop from fun W1 => Below W3.drew.heap.size W3.drew W1) _ := hHeld
                refine hK.out _ _ (Or.inr hHeld2) (fun _ => ?_)
                clear hK K hHeld
                try clear hb
                have hHeld := hHeld2
                clear hHeld2
                try simp only [Act.put, List.setIfInBounds_toArray, List.set_cons_zero, List.set_cons_succ]
                refine wpAnyE_ready (rs := [14]) (by kernel_rfl) (by simp) ?_
                refine AllReadyE.cons (o := ({ dst := none, op := Op.store 68 (Operand.tmp 11) (Operand.tmp 63), type := 0, pos := "match.go:169", after := #[{ on := 12, ground := Ground.data }, { on := 10, ground := Ground.data }, { on := 8, ground := Ground.chain }, { on := 0, ground := Ground.phase }, { on := 1, ground := Ground.phase }, { on := 2, ground := Ground.phase }, { on := 3, ground := Ground.phase }, { on := 4, ground := Ground.phase }, { on := 5, ground := Ground.phase }, { on := 6, ground := Ground.phase }, { on := 7, ground := Ground.phase }, { on := 8, ground := Ground.phase }, { on := 9, ground := Ground.phase }, { on := 10, ground := Ground.phase }, { on := 11, ground := Ground.textOnly Departure.lateStores }, { on := 12, ground := Ground.phase }, { on := 13, ground := Ground.phase }], guard := none } : Oper)) rfl (fun K hK => ?_) AllReadyE.nil
                rw [if_pos (by rfl)]
                refine wp_store_known 68 (.tmp 11) (.tmp 63) rfl ⟨ga, 0, none⟩ (.agg (faceC fe)) rfl rfl (store_face face0 _ _ ga _ HA.out) ?_
                have HB3 := Lib.hid (below_setRow hHeld HLA.out (faceC fe))
                have HC3 := Lib.hid ((setRow_other _ ga gc (faceC fe) (Ne.symm HNE.out)).trans HC.out)
                have HA3 := Lib.hid (setRow_heap _ ga _ (faceC fe) _ _ HA.out)
                refine hK.out _ _ (Or.inl ⟨14, by simp, by kernel_rfl⟩) (fun _ => ?_)
                clear hK K
                try clear hHeld
                try clear hb
                try simp only [Act.put, List.setIfInBounds_toArray, List.set_cons_zero, List.set_cons_succ]
                refine wpAnyE_ready (rs := [15]) (by kernel_rfl) (by simp) ?_
                refine AllReadyE.cons (o := ({ dst := none, op := Op.store 68 (Operand.tmp 12) (Operand.tmp 64), type := 0, pos := "match.go:169", after := #[{ on := 13, ground := Ground.data }, { on := 11, ground := Ground.data }, { on := 14, ground := Ground.chain }, { on := 0, ground := Ground.phase }, { on := 1, ground := Ground.phase }, { on := 2, ground := Ground.phase }, { on := 3, ground := Ground.phase }, { on := 4, ground := Ground.phase }, { on := 5, ground := Ground.phase }, { on := 6, ground := Ground.phase }, { on := 7, ground := Ground.phase }, { on := 8, ground := Ground.phase }, { on := 9, ground := Ground.phase }, { on := 10, ground := Ground.phase }, { on := 11, ground := Ground.phase }, { on := 12, ground := Ground.phase }, { on := 13, ground := Ground.phase }, { on := 14, ground := Ground.phase }], guard := none } : Oper)) rfl (fun K hK => ?_) AllReadyE.nil
                rw [if_pos (by rfl)]
                refine wp_store_known 68 (.tmp 12) (.tmp 64) rfl ⟨gc, 0, none⟩ (.agg (faceC fo)) rfl rfl (store_face face0 _ _ gc _ HC3.out) ?_
                have HB4 := Lib.hid (below_setRow HB3.out HLC.out (faceC fo))
                have HA4 := Lib.hid ((setRow_other _ gc ga (faceC fo) HNE.out).trans HA3.out)
                refine hK.out _ _ (Or.inl ⟨15, by simp, by kernel_rfl⟩) (fun _ => ?_)
                clear hK K
                try clear hHeld
                try clear hb
                try simp only [Act.put, List.setIfInBounds_toArray, List.set_cons_zero, List.set_cons_succ]
                refine wpAnyE_done (by kernel_rfl) ?_ _
                refine HK10.out _ _ ?_
                exact cancel10 (f := fe) _ _ _ _ _ _ _ _ _ _ _ _ _ _ _ _ _ _ _ _ _ _ _ _ _ _ _ _ _ _ _ _ _ _ _ _ _ _ _ _ _ _ _ _ _ _ _ _ _ _ _ _ _ _ _ _ _ _ _ _ _ _ _ _ _ _ _ _ _ _ _ _ _ _ _ _ _ _ _ _ _ _ _ _ _ _ _ _ _ _ _ _ _ _ _ _ _ _ _ _ _ _ _ _ _ _ _ _ _ _ _ _ _ _ _ _ _ _ _ _ _ _ _ _ _ _ _ _ (HM0.out.grow HB4.out) (HR0.out.grow HB4.out) HWW.out HFW.out HA4.out (blk_none HX0.out (gb_below HB4.out)) HNQ.out HQ.out HS.out HI0.out HND.out (fun c1 a1 a2 w1 h hd1 => ⟨hd1.trans h.1, h.2⟩) (fun T W' v' h1 h2 hm hr => bodyPost_ret (results_tmp2 rfl _ _ _) rfl (show Φ (.returned (.tuple #[T.getD 6 undef, T.getD 7 undef])) W' by rw [h1, h2]; exact HOP.out i j i0 q v' W' HI.out HIP.out HIR.out HTW.out HG.out HPP.out HQ.out (by rw [← HFE.out]; exact HS.out) (by rw [← HFE.out]; exact HLQ.out) HI0.out hm hr))
              refine AllReadyE.cons (o := ({ dst := none, op := Op.store 68 (Operand.tmp 11) (Operand.tmp 63), type := 0, pos := "match.go:169", after := #[{ on := 12, ground := Ground.data }, { on := 10, ground := Ground.data }, { on := 8, ground := Ground.chain }, { on := 0, ground := Ground.phase }, { on := 1, ground := Ground.phase }, { on := 2, ground := Ground.phase }, { on := 3, ground := Ground.phase }, { on := 4, ground := Ground.phase }, { on := 5, ground := Ground.phase }, { on := 6, ground := Ground.phase }, { on := 7, ground := Ground.phase }, { on := 8, ground := Ground.phase }, { on := 9, ground := Ground.phase }, { on := 10, ground := Ground.phase }, { on := 11, ground := Ground.textOnly Departure.lateStores }, { on := 12, ground := Ground.phase }, { on := 13, ground := Ground.phase }], guard := none } : Oper)) rfl (fun K hK => ?_) AllReadyE.nil
              · rw [if_pos (by rfl)]
                refine wp_store_known 68 (.tmp 11) (.tmp 63) rfl ⟨ga, 0, none⟩ (.agg (faceC fe)) rfl rfl (store_face face0 _ _ ga _ HA.out) ?_
                have HB3 := Lib.hid (below_setRow hHeld HLA.out (faceC fe))
                have HC3 := Lib.hid ((setRow_other _ ga gc (faceC fe) (Ne.symm HNE.out)).trans HC.out)
                have HA3 := Lib.hid (setRow_heap _ ga _ (faceC fe) _ _ HA.out)
                refine hK.out _ _ (Or.inl ⟨14, by simp, by kernel_rfl⟩) (fun _ => ?_)
                clear hK K
                try clear hHeld
                try clear hb
                try simp only [Act.put, List.setIfInBounds_toArray, List.set_cons_zero, List.set_cons_succ]
                refine wpAnyE_ready (rs := [11]) (by kernel_rfl) (by simp) ?_
                refine AllReadyE.cons (o := ({ dst := some 64, op := Op.extract (Operand.tmp 53) 1, type := 68, pos := "match.go:169", after := #[{ on := 9, ground := Ground.data }, { on := 14, ground := Ground.gcOnly Departure.lateStores }], guard := none } : Oper)) rfl (fun K hK => ?_) AllReadyE.nil
                go_simp
                refine hK.out _ _ (Or.inl ⟨14, by simp, by kernel_rfl⟩) (fun _ => ?_)
                clear hK K
                try clear hHeld
                try clear hb
                try simp only [Act.put, List.setIfInBounds_toArray, List.set_cons_zero, List.set_cons_succ]
                refine wpAnyE_ready (rs := [15]) (by kernel_rfl) (by simp) ?_
                refine AllReadyE.cons (o := ({ dst := none, op := Op.store 68 (Operand.tmp 12) (Operand.tmp 64), type := 0, pos := "match.go:169", after := #[{ on := 13, ground := Ground.data }, { on := 11, ground := Ground.data }, { on := 14, ground := Ground.chain }, { on := 0, ground := Ground.phase }, { on := 1, ground := Ground.phase }, { on := 2, ground := Ground.phase }, { on := 3, ground := Ground.phase }, { on := 4, ground := Ground.phase }, { on := 5, ground := Ground.phase }, { on := 6, ground := Ground.phase }, { on := 7, ground := Ground.phase }, { on := 8, ground := Ground.phase }, { on := 9, ground := Ground.phase }, { on := 10, ground := Ground.phase }, { on := 11, ground := Ground.phase }, { on := 12, ground := Ground.phase }, { on := 13, ground := Ground.phase }, { on := 14, ground := Ground.phase }], guard := none } : Oper)) rfl (fun K hK => ?_) AllReadyE.nil
                rw [if_pos (by rfl)]
                refine wp_store_known 68 (.tmp 12) (.tmp 64) rfl ⟨gc, 0, none⟩ (.agg (faceC fo)) rfl rfl (store_face face0 _ _ gc _ HC3.out) ?_
                have HB4 := Lib.hid (below_setRow HB3.out HLC.out (faceC fo))
                have HA4 := Lib.hid ((setRow_other _ gc ga (faceC fo) HNE.out).trans HA3.out)
                refine hK.out _ _ (Or.inl ⟨15, by simp, by kernel_rfl⟩) (fun _ => ?_)
                clear hK K
                try clear hHeld
                try clear hb
                try simp only [Act.put, List.setIfInBounds_toArray, List.set_cons_zero, List.set_cons_succ]
                refine wpAnyE_done (by kernel_rfl) ?_ _
                refine HK10.out _ _ ?_
                exact cancel10 (f := fe) _ _ _ _ _ _ _ _ _ _ _ _ _ _ _ _ _ _ _ _ _ _ _ _ _ _ _ _ _ _ _ _ _ _ _ _ _ _ _ _ _ _ _ _ _ _ _ _ _ _ _ _ _ _ _ _ _ _ _ _ _ _ _ _ _ _ _ _ _ _ _ _ _ _ _ _ _ _ _ _ _ _ _ _ _ _ _ _ _ _ _ _ _ _ _ _ _ _ _ _ _ _ _ _ _ _ _ _ _ _ _ _ _ _ _ _ _ _ _ _ _ _ _ _ _ _ _ _ (HM0.out.grow HB4.out) (HR0.out.grow HB4.out) HWW.out HFW.out HA4.out (blk_none HX0.out (gb_below HB4.out)) HNQ.out HQ.out HS.out HI0.out HND.out (fun c1 a1 a2 w1 h hd1 => ⟨hd1.trans h.1, h.2⟩) (fun T W' v' h1 h2 hm hr => bodyPost_ret (results_tmp2 rfl _ _ _) rfl (show Φ (.returned (.tuple #[T.getD 6 undef, T.getD 7 undef])) W' by rw [h1, h2]; exact HOP.out i j i0 q v' W' HI.out HIP.out HIR.out HTW.out HG.out HPP.out HQ.out (by rw [← HFE.out]; exact HS.out) (by rw [← HFE.out]; exact HLQ.out) HI0.out hm hr))
          refine AllReadyE.cons (o := ({ dst := some 12, op := Op.alloc 68, type := 0, pos := "match.go:169", after := #[], guard := none } : Oper)) rfl (fun K hK => ?_) AllReadyE.nil
          · rw [if_pos (by rfl)]
            refine wp_alloc_known 68 rfl (faceC face0) (alloc_face _) ?_
            intro W4 gc hb2 hgc hlc
            have HLC := Lib.hid (Nat.le_trans hHeld.size hlc)
            try (have HNE : Hid (ga ≠ gc) := Lib.hid (fun e => by have := (Array.getElem?_eq_some_iff.1 HA.out).1; omega))
            try (have HA := Lib.hid (blk_none HA.out (gb_below hb2)))
            have HC := Lib.hid hgc
            clear hgc hlc
            have hHeld2 : (show World → Prop from fun W1 => Below W3.drew.heap.size W3.drew W1) _ := bl_then hHeld hb2
            refine hK.out _ _ (Or.inr hHeld2) (fun _ => ?_)
            clear hK K hHeld
            try clear hb
            have hHeld := hHeld2
            clear hHeld2
            try simp only [Act.put, List.setIfInBounds_toArray, List.set_cons_zero, List.set_cons_succ]
            refine wpAnyE_ready (rs := [8]) (by kernel_rfl) (by simp) ?_
            refine AllReadyE.cons (o := ({ dst := some 62, op := Op.call { callee := Callee.value (Operand.func 23), args := #[Operand.tmp 57, Operand.tmp 61], argTypes := #[28, 29] }, type := 69, pos := "match.go:169", after := #[{ on := 3, ground := Ground.data }, { on := 7, ground := Ground.data }], guard := none } : Oper)) rfl (fun K hK => ?_) AllReadyE.nil
            go_simp
            go_at_call 23
            (with_reducible refine (HFO.out _ hHeld).mono ?_)
            rintro e1 W4 ⟨rfl, hb2⟩
            try (have HA := Lib.hid (blk_none HA.out (gb_below hb2)))
            try (have HC := Lib.hid (blk_none HC.out (gb_below hb2)))
            have hHeld2 : (show World → Prop from fun W1 => Below W3.drew.heap.size W3.drew W1) _ := bl_then hHeld hb2
            refine hK.out _ _ (Or.inr hHeld2) (fun _ => ?_)
            clear hK K hHeld
            try clear hb
            have hHeld := hHeld2
            clear hHeld2
            try simp only [Act.put, List.setIfInBounds_toArray, List.set_cons_zero, List.set_cons_succ]
            refine wpAnyE_take (i := 9) (oi := ({ dst := some 53, op := Op.move (Operand.tmp 62), type := 69, pos := "match.go:169", after := #[{ on := 8, ground := Ground.data }], guard := none } : Oper)) (v := ?_) rfl (by kernel_rfl) (by kernel_rfl) (by kernel_rfl) (by kernel_rfl) (fun _ _ _ h => h) (Or.inl ⟨by rfl, ?_⟩) hHeld ?_
            rotate_left
            · intro w' hSw; (try dsimp only at hSw); go_simp <;> with_reducible rfl
            try simp only [Act.put, List.setIfInBounds_toArray, List.set_cons_zero, List.set_cons_succ]
            refine wpAnyE_take (i := 10) (oi := ({ dst := some 63, op := Op.extract (Operand.tmp 53) 0, type := 68, pos := "match.go:169", after := #[{ on := 9, ground := Ground.data }], guard := none } : Oper)) (v := ?_) rfl (by kernel_rfl) (by kernel_rfl) (by kernel_rfl) (by kernel_rfl) (fun _ _ _ h => h) (Or.inl ⟨by rfl, ?_⟩) hHeld ?_
            rotate_left
            · intro w' hSw; (try dsimp only at hSw); go_simp <;> with_reducible rfl
            try simp only [Act.put, List.setIfInBounds_toArray, List.set_cons_zero, List.set_cons_succ]
            refine wpAnyE_ready (rs := [11, 14]) (by kernel_rfl) (by simp) ?_
            refine AllReadyE.cons (o := ({ dst := some 64, op := Op.extract (Operand.tmp 53) 1, type := 68, pos := "match.go:169", after := #[{ on := 9, ground := Ground.data }, { on := 14, ground := Ground.gcOnly Departure.lateStores }], guard := none } : Oper)) rfl (fun K hK => ?_) ?_
            · go_simp
              have hHeld2 : (show World → Prop from fun W1 => Below W3.drew.heap.size W3.drew W1) _ := hHeld
              refine hK.out _ _ (Or.inr hHeld2) (fun _ => ?_)
              clear hK K hHeld
              try clear hb
              have hHeld := hHeld2
              clear hHeld2
              try simp only [Act.put, List.setIfInBounds_toArray, List.set_cons_zero, List.set_cons_succ]
              refine wpAnyE_ready (rs := [14]) (by kernel_rfl) (by simp) ?_
              refine AllReadyE.cons (o := ({ dst := none, op := Op.store 68 (Operand.tmp 11) (Operand.tmp 63), type := 0, pos := "match.go:169", after := #[{ on := 12, ground := Ground.data }, { on := 10, ground := Ground.data }, { on := 8, ground := Ground.chain }, { on := 0, ground := Ground.phase }, { on := 1, ground := Ground.phase }, { on := 2, ground := Ground.phase }, { on := 3, ground := Ground.phase }, { on := 4, ground := Ground.phase }, { on := 5, ground := Ground.phase }, { on := 6, ground := Ground.phase }, { on := 7, ground := Ground.phase }, { on := 8, ground := Ground.phase }, { on := 9, ground := Ground.phase }, { on := 10, ground := Ground.phase }, { on := 11, ground := Ground.textOnly Departure.lateStores }, { on := 12, ground := Ground.phase }, { on := 13, ground := Ground.phase }], guard := none } : Oper)) rfl (fun K hK => ?_) AllReadyE.nil
              rw [if_pos (by rfl)]
              refine wp_store_known 68 (.tmp 11) (.tmp 63) rfl ⟨ga, 0, none⟩ (.agg (faceC fe)) rfl rfl (store_face face0 _ _ ga _ HA.out) ?_
              have HB3 := Lib.hid (below_setRow hHeld HLA.out (faceC fe))
              have HC3 := Lib.hid ((setRow_other _ ga gc (faceC fe) (Ne.symm HNE.out)).trans HC.out)
              have HA3 := Lib.hid (setRow_heap _ ga _ (faceC fe) _ _ HA.out)
              refine hK.out _ _ (Or.inl ⟨14, by simp, by kernel_rfl⟩) (fun _ => ?_)
              clear hK K
              try clear hHeld
              try clear hb
              try simp only [Act.put, List.setIfInBounds_toArray, List.set_cons_zero, List.set_cons_succ]
              refine wpAnyE_ready (rs := [15]) (by kernel_rfl) (by simp) ?_
              refine AllReadyE.cons (o := ({ dst := none, op := Op.store 68 (Operand.tmp 12) (Operand.tmp 64), type := 0, pos := "match.go:169", after := #[{ on := 13, ground := Ground.data }, { on := 11, ground := Ground.data }, { on := 14, ground := Ground.chain }, { on := 0, ground := Ground.phase }, { on := 1, ground := Ground.phase }, { on := 2, ground := Ground.phase }, { on := 3, ground := Ground.phase }, { on := 4, ground := Ground.phase }, { on := 5, ground := Ground.phase }, { on := 6, ground := Ground.phase }, { on := 7, ground := Ground.phase }, { on := 8, ground := Ground.phase }, { on := 9, ground := Ground.phase }, { on := 10, ground := Ground.phase }, { on := 11, ground := Ground.phase }, { on := 12, ground := Ground.phase }, { on := 13, ground := Ground.phase }, { on := 14, ground := Ground.phase }], guard := none } : Oper)) rfl (fun K hK => ?_) AllReadyE.nil
              rw [if_pos (by rfl)]
              refine wp_store_known 68 (.tmp 12) (.tmp 64) rfl ⟨gc, 0, none⟩ (.agg (faceC fo)) rfl rfl (store_face face0 _ _ gc _ HC3.out) ?_
              have HB4 := Lib.hid (below_setRow HB3.out HLC.out (faceC fo))
              have HA4 := Lib.hid ((setRow_other _ gc ga (faceC fo) HNE.out).trans HA3.out)
              refine hK.out _ _ (Or.inl ⟨15, by simp, by kernel_rfl⟩) (fun _ => ?_)
              clear hK K
              try clear hHeld
              try clear hb
              try simp only [Act.put, List.setIfInBounds_toArray, List.set_cons_zero, List.set_cons_succ]
              refine wpAnyE_done (by kernel_rfl) ?_ _
              refine HK10.out _ _ ?_
              exact cancel10 (f := fe) _ _ _ _ _ _ _ _ _ _ _ _ _ _ _ _ _ _ _ _ _ _ _ _ _ _ _ _ _ _ _ _ _ _ _ _ _ _ _ _ _ _ _ _ _ _ _ _ _ _ _ _ _ _ _ _ _ _ _ _ _ _ _ _ _ _ _ _ _ _ _ _ _ _ _ _ _ _ _ _ _ _ _ _ _ _ _ _ _ _ _ _ _ _ _ _ _ _ _ _ _ _ _ _ _ _ _ _ _ _ _ _ _ _ _ _ _ _ _ _ _ _ _ _ _ _ _ _ (HM0.out.grow HB4.out) (HR0.out.grow HB4.out) HWW.out HFW.out HA4.out (blk_none HX0.out (gb_below HB4.out)) HNQ.out HQ.out HS.out HI0.out HND.out (fun c1 a1 a2 w1 h hd1 => ⟨hd1.trans h.1, h.2⟩) (fun T W' v' h1 h2 hm hr => bodyPost_ret (results_tmp2 rfl _ _ _) rfl (show Φ (.returned (.tuple #[T.getD 6 undef, T.getD 7 undef])) W' by rw [h1, h2]; exact HOP.out i j i0 q v' W' HI.out HIP.out HIR.out HTW.out HG.out HPP.out HQ.out (by rw [← HFE.out]; exact HS.out) (by rw [← HFE.out]; exact HLQ.out) HI0.out hm hr))
            refine AllReadyE.cons (o := ({ dst := none, op := Op.store 68 (Operand.tmp 11) (Operand.tmp 63), type := 0, pos := "match.go:169", after := #[{ on := 12, ground := Ground.data }, { on := 10, ground := Ground.data }, { on := 8, ground := Ground.chain }, { on := 0, ground := Ground.phase }, { on := 1, ground := Ground.phase }, { on := 2, ground := Ground.phase }, { on := 3, ground := Ground.phase }, { on := 4, ground := Ground.phase }, { on := 5, ground := Ground.phase }, { on := 6, ground := Ground.phase }, { on := 7, ground := Ground.phase }, { on := 8, ground := Ground.phase }, { on := 9, ground := Ground.phase }, { on := 10, ground := Ground.phase }, { on := 11, ground := Ground.textOnly Departure.lateStores }, { on := 12, ground := Ground.phase }, { on := 13, ground := Ground.phase }], guard := none } : Oper)) rfl (fun K hK => ?_) AllReadyE.nil
            · rw [if_pos (by rfl)]
              refine wp_store_known 68 (.tmp 11) (.tmp 63) rfl ⟨ga, 0, none⟩ (.agg (faceC fe)) rfl rfl (store_face face0 _ _ ga _ HA.out) ?_
              have HB3 := Lib.hid (below_setRow hHeld HLA.out (faceC fe))
              have HC3 := Lib.hid ((setRow_other _ ga gc (faceC fe) (Ne.symm HNE.out)).trans HC.out)
              have HA3 := Lib.hid (setRow_heap _ ga _ (faceC fe) _ _ HA.out)
              refine hK.out _ _ (Or.inl ⟨14, by simp, by kernel_rfl⟩) (fun _ => ?_)
              clear hK K
              try clear hHeld
              try clear hb
              try simp only [Act.put, List.setIfInBounds_toArray, List.set_cons_zero, List.set_cons_succ]
              refine wpAnyE_ready (rs := [11]) (by kernel_rfl) (by simp) ?_
              refine AllReadyE.cons (o := ({ dst := some 64, op := Op.extract (Operand.tmp 53) 1, type := 68, pos := "match.go:169", after := #[{ on := 9, ground := Ground.data }, { on := 14, ground := Ground.gcOnly Departure.lateStores }], guard := none } : Oper)) rfl (fun K hK => ?_) AllReadyE.nil
              go_simp
              refine hK.out _ _ (Or.inl ⟨14, by simp, by kernel_rfl⟩) (fun _ => ?_)
              clear hK K
              try clear hHeld
              try clear hb
              try simp only [Act.put, List.setIfInBounds_toArray, List.set_cons_zero, List.set_cons_succ]
              refine wpAnyE_ready (rs := [15]) (by kernel_rfl) (by simp) ?_
              refine AllReadyE.cons (o := ({ dst := none, op := Op.store 68 (Operand.tmp 12) (Operand.tmp 64), type := 0, pos := "match.go:169", after := #[{ on := 13, ground := Ground.data }, { on := 11, ground := Ground.data }, { on := 14, ground := Ground.chain }, { on := 0, ground := Ground.phase }, { on := 1, ground := Ground.phase }, { on := 2, ground := Ground.phase }, { on := 3, ground := Ground.phase }, { on := 4, ground := Ground.phase }, { on := 5, ground := Ground.phase }, { on := 6, ground := Ground.phase }, { on := 7, ground := Ground.phase }, { on := 8, ground := Ground.phase }, { on := 9, ground := Ground.phase }, { on := 10, ground := Ground.phase }, { on := 11, ground := Ground.phase }, { on := 12, ground := Ground.phase }, { on := 13, ground := Ground.phase }, { on := 14, ground := Ground.phase }], guard := none } : Oper)) rfl (fun K hK => ?_) AllReadyE.nil
              rw [if_pos (by rfl)]
              refine wp_store_known 68 (.tmp 12) (.tmp 64) rfl ⟨gc, 0, none⟩ (.agg (faceC fo)) rfl rfl (store_face face0 _ _ gc _ HC3.out) ?_
              have HB4 := Lib.hid (below_setRow HB3.out HLC.out (faceC fo))
              have HA4 := Lib.hid ((setRow_other _ gc ga (faceC fo) HNE.out).trans HA3.out)
              refine hK.out _ _ (Or.inl ⟨15, by simp, by kernel_rfl⟩) (fun _ => ?_)
              clear hK K
              try clear hHeld
              try clear hb
              try simp only [Act.put, List.setIfInBounds_toArray, List.set_cons_zero, List.set_cons_succ]
              refine wpAnyE_done (by kernel_rfl) ?_ _
              refine HK10.out _ _ ?_
              exact cancel10 (f := fe) _ _ _ _ _ _ _ _ _ _ _ _ _ _ _ _ _ _ _ _ _ _ _ _ _ _ _ _ _ _ _ _ _ _ _ _ _ _ _ _ _ _ _ _ _ _ _ _ _ _ _ _ _ _ _ _ _ _ _ _ _ _ _ _ _ _ _ _ _ _ _ _ _ _ _ _ _ _ _ _ _ _ _ _ _ _ _ _ _ _ _ _ _ _ _ _ _ _ _ _ _ _ _ _ _ _ _ _ _ _ _ _ _ _ _ _ _ _ _ _ _ _ _ _ _ _ _ _ (HM0.out.grow HB4.out) (HR0.out.grow HB4.out) HWW.out HFW.out HA4.out (blk_none HX0.out (gb_below HB4.out)) HNQ.out HQ.out HS.out HI0.out HND.out (fun c1 a1 a2 w1 h hd1 => ⟨hd1.trans h.1, h.2⟩) (fun T W' v' h1 h2 hm hr => bodyPost_ret (results_tmp2 rfl _ _ _) rfl (show Φ (.returned (.tuple #[T.getD 6 undef, T.getD 7 undef])) W' by rw [h1, h2]; exact HOP.out i j i0 q v' W' HI.out HIP.out HIR.out HTW.out HG.out HPP.out HQ.out (by rw [← HFE.out]; exact HS.out) (by rw [← HFE.out]; exact HLQ.out) HI0.out hm hr))
        refine AllReadyE.cons (o := ({ dst := some 12, op := Op.alloc 68, type := 0, pos := "match.go:169", after := #[], guard := none } : Oper)) rfl (fun K hK => ?_) AllReadyE.nil
        · rw [if_pos (by rfl)]
          refine wp_alloc_known 68 rfl (faceC face0) (alloc_face _) ?_
          intro W4 gc hb2 hgc hlc
          have HLC := Lib.hid (Nat.le_trans hHeld.size hlc)
          try (have HNE : Hid (ga ≠ gc) := Lib.hid (fun e => by have := (Array.getElem?_eq_some_iff.1 HA.out).1; omega))
          try (have HA := Lib.hid (blk_none HA.out (gb_below hb2)))
          have HC := Lib.hid hgc
          clear hgc hlc
          have hHeld2 : (show World → Prop from fun W1 => Below W3.drew.heap.size W3.drew W1) _ := bl_then hHeld hb2
          refine hK.out _ _ (Or.inr hHeld2) (fun _ => ?_)
          clear hK K hHeld
          try clear hb
          have hHeld := hHeld2
          clear hHeld2
          try simp only [Act.put, List.setIfInBounds_toArray, List.set_cons_zero, List.set_cons_succ]
          refine wpAnyE_ready (rs := [8, 12]) (by kernel_rfl) (by simp) ?_
          refine AllReadyE.cons (o := ({ dst := some 62, op := Op.call { callee := Callee.value (Operand.func 23), args := #[Operand.tmp 57, Operand.tmp 61], argTypes := #[28, 29] }, type := 69, pos := "match.go:169", after := #[{ on := 3, ground := Ground.data }, { on := 7, ground := Ground.data }], guard := none } : Oper)) rfl (fun K hK => ?_) ?_
          · go_simp
            go_at_call 23
            (with_reducible refine (HFO.out _ hHeld).mono ?_)
            rintro e1 W4 ⟨rfl, hb2⟩
            try (have HA := Lib.hid (blk_none HA.out (gb_below hb2)))
            try (have HC := Lib.hid (blk_none HC.out (gb_below hb2)))
            have hHeld2 : (show World → Prop from fun W1 => Below W3.drew.heap.size W3.drew W1) _ := bl_then hHeld hb2
            refine hK.out _ _ (Or.inr hHeld2) (fun _ => ?_)
            clear hK K hHeld
            try clear hb
            have hHeld := hHeld2
            clear hHeld2
            try simp only [Act.put, List.setIfInBounds_toArray, List.set_cons_zero, List.set_cons_succ]
            refine wpAnyE_take (i := 9) (oi := ({ dst := some 53, op := Op.move (Operand.tmp 62), type := 69, pos := "match.go:169", after := #[{ on := 8, ground := Ground.data }], guard := none } : Oper)) (v := ?_) rfl (by kernel_rfl) (by kernel_rfl) (by kernel_rfl) (by kernel_rfl) (fun _ _ _ h => h) (Or.inl ⟨by rfl, ?_⟩) hHeld ?_
            rotate_left
            · intro w' hSw; (try dsimp only at hSw); go_simp <;> with_reducible rfl
            try simp only [Act.put, List.setIfInBounds_toArray, List.set_cons_zero, List.set_cons_succ]
            refine wpAnyE_take (i := 10) (oi := ({ dst := some 63, op := Op.extract (Operand.tmp 53) 0, type := 68, pos := "match.go:169", after := #[{ on := 9, ground := Ground.data }], guard := none } : Oper)) (v := ?_) rfl (by kernel_rfl) (by kernel_rfl) (by kernel_rfl) (by kernel_rfl) (fun _ _ _ h => h) (Or.inl ⟨by rfl, ?_⟩) hHeld ?_
            rotate_left
            · intro w' hSw; (try dsimp only at hSw); go_simp <;> with_reducible rfl
            try simp only [Act.put, List.setIfInBounds_toArray, List.set_cons_zero, List.set_cons_succ]
            refine wpAnyE_ready (rs := [11, 12]) (by kernel_rfl) (by simp) ?_
            refine AllReadyE.cons (o := ({ dst := some 64, op := Op.extract (Operand.tmp 53) 1, type := 68, pos := "match.go:169", after := #[{ on := 9, ground := Ground.data }, { on := 14, ground := Ground.gcOnly Departure.lateStores }], guard := none } : Oper)) rfl (fun K hK => ?_) ?_
            · go_simp
              have hHeld2 : (show World → Prop from fun W1 => Below W3.drew.heap.size W3.drew W1) _ := hHeld
              refine hK.out _ _ (Or.inr hHeld2) (fun _ => ?_)
              clear hK K hHeld
              try clear hb
              have hHeld := hHeld2
              clear hHeld2
              try simp only [Act.put, List.setIfInBounds_toArray, List.set_cons_zero, List.set_cons_succ]
              refine wpAnyE_ready (rs := [12]) (by kernel_rfl) (by simp) ?_
              refine AllReadyE.cons (o := ({ dst := some 11, op := Op.alloc 68, type := 0, pos := "match.go:169", after := #[], guard := none } : Oper)) rfl (fun K hK => ?_) AllReadyE.nil
              rw [if_pos (by rfl)]
              refine wp_alloc_known 68 rfl (faceC face0) (alloc_face _) ?_
              intro W4 ga hb2 hga hla
              have HLA := Lib.hid (Nat.le_trans hHeld.size hla)
              try (have HNE : Hid (ga ≠ gc) := Lib.hid (fun e => by have := (Array.getElem?_eq_some_iff.1 HC.out).1; omega))
              try (have HC := Lib.hid (blk_none HC.out (gb_below hb2)))
              have HA := Lib.hid hga
              clear hga hla
              have hHeld2 : (show World → Prop from fun W1 => Below W3.drew.heap.size W3.drew W1) _ := bl_then hHeld hb2
              refine hK.out _ _ (Or.inr hHeld2) (fun _ => ?_)
              clear hK K hHeld
              try clear hb
              have hHeld := hHeld2
              clear hHeld2
              try simp only [Act.put, List.setIfInBounds_toArray, List.set_cons_zero, List.set_cons_succ]
              refine wpAnyE_ready (rs := [14]) (by kernel_rfl) (by simp) ?_
              refine AllReadyE.cons (o := ({ dst := none, op := Op.store 68 (Operand.tmp 11) (Operand.tmp 63), type := 0, pos := "match.go:169", after := #[{ on := 12, ground := Ground.data }, { on := 10, ground := Ground.data }, { on := 8, ground := Ground.chain }, { on := 0, ground := Ground.phase }, { on := 1, ground := Ground.phase }, { on := 2, ground := Ground.phase }, { on := 3, ground := Ground.phase }, { on := 4, ground := Ground.phase }, { on := 5, ground := Ground.phase }, { on := 6, ground := Ground.phase }, { on := 7, ground := Ground.phase }, { on := 8, ground := Ground.phase }, { on := 9, ground := Ground.phase }, { on := 10, ground := Ground.phase }, { on := 11, ground := Ground.textOnly Departure.lateStores }, { on := 12, ground := Ground.phase }, { on := 13, ground := Ground.phase }], guard := none } : Oper)) rfl (fun K hK => ?_) AllReadyE.nil
              rw [if_pos (by rfl)]
              refine wp_store_known 68 (.tmp 11) (.tmp 63) rfl ⟨ga, 0, none⟩ (.agg (faceC fe)) rfl rfl (store_face face0 _ _ ga _ HA.out) ?_
              have HB3 := Lib.hid (below_setRow hHeld HLA.out (faceC fe))
              have HC3 := Lib.hid ((setRow_other _ ga gc (faceC fe) (Ne.symm HNE.out)).trans HC.out)
              have HA3 := Lib.hid (setRow_heap _ ga _ (faceC fe) _ _ HA.out)
              refine hK.out _ _ (Or.inl ⟨14, by simp, by kernel_rfl⟩) (fun _ => ?_)
              clear hK K
              try clear hHeld
              try clear hb
              try simp only [Act.put, List.setIfInBounds_toArray, List.set_cons_zero, List.set_cons_succ]
              refine wpAnyE_ready (rs := [15]) (by kernel_rfl) (by simp) ?_
              refine AllReadyE.cons (o := ({ dst := none, op := Op.store 68 (Operand.tmp 12) (Operand.tmp 64), type := 0, pos := "match.go:169", after := #[{ on := 13, ground := Ground.data }, { on := 11, ground := Ground.data }, { on := 14, ground := Ground.chain }, { on := 0, ground := Ground.phase }, { on := 1, ground := Ground.phase }, { on := 2, ground := Ground.phase }, { on := 3, ground := Ground.phase }, { on := 4, ground := Ground.phase }, { on := 5, ground := Ground.phase }, { on := 6, ground := Ground.phase }, { on := 7, ground := Ground.phase }, { on := 8, ground := Ground.phase }, { on := 9, ground := Ground.phase }, { on := 10, ground := Ground.phase }, { on := 11, ground := Ground.phase }, { on := 12, ground := Ground.phase }, { on := 13, ground := Ground.phase }, { on := 14, ground := Ground.phase }], guard := none } : Oper)) rfl (fun K hK => ?_) AllReadyE.nil
              rw [if_pos (by rfl)]
              refine wp_store_known 68 (.tmp 12) (.tmp 64) rfl ⟨gc, 0, none⟩ (.agg (faceC fo)) rfl rfl (store_face face0 _ _ gc _ HC3.out) ?_
              have HB4 := Lib.hid (below_setRow HB3.out HLC.out (faceC fo))
              have HA4 := Lib.hid ((setRow_other _ gc ga (faceC fo) HNE.out).trans HA3.out)
              refine hK.out _ _ (Or.inl ⟨15, by simp, by kernel_rfl⟩) (fun _ => ?_)
              clear hK K
              try clear hHeld
              try clear hb
              try simp only [Act.put, List.setIfInBounds_toArray, List.set_cons_zero, List.set_cons_succ]
              refine wpAnyE_done (by kernel_rfl) ?_ _
              refine HK10.out _ _ ?_
              exact cancel10 (f := fe) _ _ _ _ _ _ _ _ _ _ _ _ _ _ _ _ _ _ _ _ _ _ _ _ _ _ _ _ _ _ _ _ _ _ _ _ _ _ _ _ _ _ _ _ _ _ _ _ _ _ _ _ _ _ _ _ _ _ _ _ _ _ _ _ _ _ _ _ _ _ _ _ _ _ _ _ _ _ _ _ _ _ _ _ _ _ _ _ _ _ _ _ _ _ _ _ _ _ _ _ _ _ _ _ _ _ _ _ _ _ _ _ _ _ _ _ _ _ _ _ _ _ _ _ _ _ _ _ (HM0.out.grow HB4.out) (HR0.out.grow HB4.out) HWW.out HFW.out HA4.out (blk_none HX0.out (gb_below HB4.out)) HNQ.out HQ.out HS.out HI0.out HND.out (fun c1 a1 a2 w1 h hd1 => ⟨hd1.trans h.1, h.2⟩) (fun T W' v' h1 h2 hm hr => bodyPost_ret (results_tmp2 rfl _ _ _) rfl (show Φ (.returned (.tuple #[T.getD 6 undef, T.getD 7 undef])) W' by rw [h1, h2]; exact HOP.out i j i0 q v' W' HI.out HIP.out HIR.out HTW.out HG.out HPP.out HQ.out (by rw [← HFE.out]; exact HS.out) (by rw [← HFE.out]; exact HLQ.out) HI0.out hm hr))
            refine AllReadyE.cons (o := ({ dst := some 11, op := Op.alloc 68, type := 0, pos := "match.go:169", after := #[], guard := none } : Oper)) rfl (fun K hK => ?_) AllReadyE.nil
            · rw [if_pos (by rfl)]
              refine wp_alloc_known 68 rfl (faceC face0) (alloc_face _) ?_
              intro W4 ga hb2 hga hla
              have HLA := Lib.hid (Nat.le_trans hHeld.size hla)
              try (have HNE : Hid (ga ≠ gc) := Lib.hid (fun e => by have := (Array.getElem?_eq_some_iff.1 HC.out).1; omega))
              try (have HC := Lib.hid (blk_none HC.out (gb_below hb2)))
              have HA := Lib.hid hga
              clear hga hla
              have hHeld2 : (show World → Prop from fun W1 => Below W3.drew.heap.size W3.drew W1) _ := bl_then hHeld hb2
              refine hK.out _ _ (Or.inr hHeld2) (fun _ => ?_)
              clear hK K hHeld
              try clear hb
              have hHeld := hHeld2
              clear hHeld2
              try simp only [Act.put, List.setIfInBounds_toArray, List.set_cons_zero, List.set_cons_succ]
              refine wpAnyE_ready (rs := [11, 14]) (by kernel_rfl) (by simp) ?_
              refine AllReadyE.cons (o := ({ dst := some 64, op := Op.extract (Operand.tmp 53) 1, type := 68, pos := "match.go:169", after := #[{ on := 9, ground := Ground.data }, { on := 14, ground := Ground.gcOnly Departure.lateStores }], guard := none } : Oper)) rfl (fun K hK => ?_) ?_
              · go_simp
                have hHeld2 : (show World → Prop from fun W1 => Below W3.drew.heap.size W3.drew W1) _ := hHeld
                refine hK.out _ _ (Or.inr hHeld2) (fun _ => ?_)
                clear hK K hHeld
                try clear hb
                have hHeld := hHeld2
                clear hHeld2
                try simp only [Act.put, List.setIfInBounds_toArray, List.set_cons_zero, List.set_cons_succ]
                refine wpAnyE_ready (rs := [14]) (by kernel_rfl) (by simp) ?_
                refine AllReadyE.cons (o := ({ dst := none, op := Op.store 68 (Operand.tmp 11) (Operand.tmp 63), type := 0, pos := "match.go:169", after := #[{ on := 12, ground := Ground.data }, { on := 10, ground := Ground.data }, { on := 8, ground := Ground.chain }, { on := 0, ground := Ground.phase }, { on := 1, ground := Ground.phase }, { on := 2, ground := Ground.phase }, { on := 3, ground := Ground.phase }, { on := 4, ground := Ground.phase }, { on := 5, ground := Ground.phase }, { on := 6, ground := Ground.phase }, { on := 7, ground := Ground.phase }, { on := 8, ground := Ground.phase }, { on := 9, ground := Ground.phase }, { on := 10, ground := Ground.phase }, { on := 11, ground := Ground.textOnly Departure.lateStores }, { on := 12, ground := Ground.phase }, { on := 13, ground := Ground.phase }], guard := none } : Oper)) rfl (fun K hK => ?_) AllReadyE.nil
                rw [if_pos (by rfl)]
                refine wp_store_known 68 (.tmp 11) (.tmp 63) rfl ⟨ga, 0, none⟩ (.agg (faceC fe)) rfl rfl (store_face face0 _ _ ga _ HA.out) ?_
                have HB3 := Lib.hid (below_setRow hHeld HLA.out (faceC fe))
                have HC3 := Lib.hid ((setRow_other _ ga gc (faceC fe) (Ne.symm HNE.out)).trans HC.out)
                have HA3 := Lib.hid (setRow_heap _ ga _ (faceC fe) _ _ HA.out)
                refine hK.out _ _ (Or.inl ⟨14, by simp, by kernel_rfl⟩) (fun _ => ?_)
                clear hK K
                try clear hHeld
                try clear hb
                try simp only [Act.put, List.setIfInBounds_toArray, List.set_cons_zero, List.set_cons_succ]
                refine wpAnyE_ready (rs := [15]) (by kernel_rfl) (by simp) ?_
                refine AllReadyE.cons (o := ({ dst := none, op := Op.store 68 (Operand.tmp 12) (Operand.tmp 64), type := 0, pos := "match.go:169", after := #[{ on := 13, ground := Ground.data }, { on := 11, ground := Ground.data }, { on := 14, ground := Ground.chain }, { on := 0, ground := Ground.phase }, { on := 1, ground := Ground.phase }, { on := 2, ground := Ground.phase }, { on := 3, ground := Ground.phase }, { on := 4, ground := Ground.phase }, { on := 5, ground := Ground.phase }, { on := 6, ground := Ground.phase }, { on := 7, ground := Ground.phase }, { on := 8, ground := Ground.phase }, { on := 9, ground := Ground.phase }, { on := 10, ground := Ground.phase }, { on := 11, ground := Ground.phase }, { on := 12, ground := Ground.phase }, { on := 13, ground := Ground.phase }, { on := 14, ground := Ground.phase }], guard := none } : Oper)) rfl (fun K hK => ?_) AllReadyE.nil
                rw [if_pos (by rfl)]
                refine wp_store_known 68 (.tmp 12) (.tmp 64) rfl ⟨gc, 0, none⟩ (.agg (faceC fo)) rfl rfl (store_face face0 _ _ gc _ HC3.out) ?_
                have HB4 := Lib.hid (below_setRow HB3.out HLC.out (faceC fo))
                have HA4 := Lib.hid ((setRow_other _ gc ga (faceC fo) HNE.out).trans HA3.out)
                refine hK.out _ _ (Or.inl ⟨15, by simp, by kernel_rfl⟩) (fun _ => ?_)
                clear hK K
                try clear hHeld
                try clear hb
                try simp only [Act.put, List.setIfInBounds_toArray, List.set_cons_zero, List.set_cons_succ]
                refine wpAnyE_done (by kernel_rfl) ?_ _
                refine HK10.out _ _ ?_
                exact cancel10 (f := fe) _ _ _ _ _ _ _ _ _ _ _ _ _ _ _ _ _ _ _ _ _ _ _ _ _ _ _ _ _ _ _ _ _ _ _ _ _ _ _ _ _ _ _ _ _ _ _ _ _ _ _ _ _ _ _ _ _ _ _ _ _ _ _ _ _ _ _ _ _ _ _ _ _ _ _ _ _ _ _ _ _ _ _ _ _ _ _ _ _ _ _ _ _ _ _ _ _ _ _ _ _ _ _ _ _ _ _ _ _ _ _ _ _ _ _ _ _ _ _ _ _ _ _ _ _ _ _ _ (HM0.out.grow HB4.out) (HR0.out.grow HB4.out) HWW.out HFW.out HA4.out (blk_none HX0.out (gb_below HB4.out)) HNQ.out HQ.out HS.out HI0.out HND.out (fun c1 a1 a2 w1 h hd1 => ⟨hd1.trans h.1, h.2⟩) (fun T W' v' h1 h2 hm hr => bodyPost_ret (results_tmp2 rfl _ _ _) rfl (show Φ (.returned (.tuple #[T.getD 6 undef, T.getD 7 undef])) W' by rw [h1, h2]; exact HOP.out i j i0 q v' W' HI.out HIP.out HIR.out HTW.out HG.out HPP.out HQ.out (by rw [← HFE.out]; exact HS.out) (by rw [← HFE.out]; exact HLQ.out) HI0.out hm hr))
              refine AllReadyE.cons (o := ({ dst := none, op := Op.store 68 (Operand.tmp 11) (Operand.tmp 63), type := 0, pos := "match.go:169", after := #[{ on := 12, ground := Ground.data }, { on := 10, ground := Ground.data }, { on := 8, ground := Ground.chain }, { on := 0, ground := Ground.phase }, { on := 1, ground := Ground.phase }, { on := 2, ground := Ground.phase }, { on := 3, ground := Ground.phase }, { on := 4, ground := Ground.phase }, { on := 5, ground := Ground.phase }, { on := 6, ground := Ground.phase }, { on := 7, ground := Ground.phase }, { on := 8, ground := Ground.phase }, { on := 9, ground := Ground.phase }, { on := 10, ground := Ground.phase }, { on := 11, ground := Ground.textOnly Departure.lateStores }, { on := 12, ground := Ground.phase }, { on := 13, ground := Ground.phase }], guard := none } : Oper)) rfl (fun K hK => ?_) AllReadyE.nil
              · rw [if_pos (by rfl)]
                refine wp_store_known 68 (.tmp 11) (.tmp 63) rfl ⟨ga, 0, none⟩ (.agg (faceC fe)) rfl rfl (store_face face0 _ _ ga _ HA.out) ?_
                have HB3 := Lib.hid (below_setRow hHeld HLA.out (faceC fe))
                have HC3 := Lib.hid ((setRow_other _ ga gc (faceC fe) (Ne.symm HNE.out)).trans HC.out)
                have HA3 := Lib.hid (setRow_heap _ ga _ (faceC fe) _ _ HA.out)
                refine hK.out _ _ (Or.inl ⟨14, by simp, by kernel_rfl⟩) (fun _ => ?_)
                clear hK K
                try clear hHeld
                try clear hb
                try simp only [Act.put, List.setIfInBounds_toArray, List.set_cons_zero, List.set_cons_succ]
                refine wpAnyE_ready (rs := [11]) (by kernel_rfl) (by simp) ?_
                refine AllReadyE.cons (o := ({ dst := some 64, op := Op.extract (Operand.tmp 53) 1, type := 68, pos := "match.go:169", after := #[{ on := 9, ground := Ground.data }, { on := 14, ground := Ground.gcOnly Departure.lateStores }], guard := none } : Oper)) rfl (fun K hK => ?_) AllReadyE.nil
                go_simp
                refine hK.out _ _ (Or.inl ⟨14, by simp, by kernel_rfl⟩) (fun _ => ?_)
                clear hK K
                try clear hHeld
                try clear hb
                try simp only [Act.put, List.setIfInBounds_toArray, List.set_cons_zero, List.set_cons_succ]
                refine wpAnyE_ready (rs := [15]) (by kernel_rfl) (by simp) ?_
                refine AllReadyE.cons (o := ({ dst := none, op := Op.store 68 (Operand.tmp 12) (Operand.tmp 64), type := 0, pos := "match.go:169", after := #[{ on := 13, ground := Ground.data }, { on := 11, ground := Ground.data }, { on := 14, ground := Ground.chain }, { on := 0, ground := Ground.phase }, { on := 1, ground := Ground.phase }, { on := 2, ground := Ground.phase }, { on := 3, ground := Ground.phase }, { on := 4, ground := Ground.phase }, { on := 5, ground := Ground.phase }, { on := 6, ground := Ground.phase }, { on := 7, ground := Ground.phase }, { on := 8, ground := Ground.phase }, { on := 9, ground := Ground.phase }, { on := 10, ground := Ground.phase }, { on := 11, ground := Ground.phase }, { on := 12, ground := Ground.phase }, { on := 13, ground := Ground.phase }, { on := 14, ground := Ground.phase }], guard := none } : Oper)) rfl (fun K hK => ?_) AllReadyE.nil
                rw [if_pos (by rfl)]
                refine wp_store_known 68 (.tmp 12) (.tmp 64) rfl ⟨gc, 0, none⟩ (.agg (faceC fo)) rfl rfl (store_face face0 _ _ gc _ HC3.out) ?_
                have HB4 := Lib.hid (below_setRow HB3.out HLC.out (faceC fo))
                have HA4 := Lib.hid ((setRow_other _ gc ga (faceC fo) HNE.out).trans HA3.out)
                refine hK.out _ _ (Or.inl ⟨15, by simp, by kernel_rfl⟩) (fun _ => ?_)
                clear hK K
                try clear hHeld
                try clear hb
                try simp only [Act.put, List.setIfInBounds_toArray, List.set_cons_zero, List.set_cons_succ]
                refine wpAnyE_done (by kernel_rfl) ?_ _
                refine HK10.out _ _ ?_
                exact cancel10 (f := fe) _ _ _ _ _ _ _ _ _ _ _ _ _ _ _ _ _ _ _ _ _ _ _ _ _ _ _ _ _ _ _ _ _ _ _ _ _ _ _ _ _ _ _ _ _ _ _ _ _ _ _ _ _ _ _ _ _ _ _ _ _ _ _ _ _ _ _ _ _ _ _ _ _ _ _ _ _ _ _ _ _ _ _ _ _ _ _ _ _ _ _ _ _ _ _ _ _ _ _ _ _ _ _ _ _ _ _ _ _ _ _ _ _ _ _ _ _ _ _ _ _ _ _ _ _ _ _ _ (HM0.out.grow HB4.out) (HR0.out.grow HB4.out) HWW.out HFW.out HA4.out (blk_none HX0.out (gb_below HB4.out)) HNQ.out HQ.out HS.out HI0.out HND.out (fun c1 a1 a2 w1 h hd1 => ⟨hd1.trans h.1, h.2⟩) (fun T W' v' h1 h2 hm hr => bodyPost_ret (results_tmp2 rfl _ _ _) rfl (show Φ (.returned (.tuple #[T.getD 6 undef, T.getD 7 undef])) W' by rw [h1, h2]; exact HOP.out i j i0 q v' W' HI.out HIP.out HIR.out HTW.out HG.out HPP.out HQ.out (by rw [← HFE.out]; exact HS.out) (by rw [← HFE.out]; exact HLQ.out) HI0.out hm hr))
          refine AllReadyE.cons (o := ({ dst := some 11, op := Op.alloc 68, type := 0, pos := "match.go:169", after := #[], guard := none } : Oper)) rfl (fun K hK => ?_) AllReadyE.nil
          · rw [if_pos (by rfl)]
            refine wp_alloc_known 68 rfl (faceC face0) (alloc_face _) ?_
            intro W4 ga hb2 hga hla
            have HLA := Lib.hid (Nat.le_trans hHeld.size hla)
            try (have HNE : Hid (ga ≠ gc) := Lib.hid (fun e => by have := (Array.getElem?_eq_some_iff.1 HC.out).1; omega))
            try (have HC := Lib.hid (blk_none HC.out (gb_below hb2)))
            have HA := Lib.hid hga
            clear hga hla
            have hHeld2 : (show World → Prop from fun W1 => Below W3.drew.heap.size W3.drew W1) _ := bl_then hHeld hb2
            refine hK.out _ _ (Or.inr hHeld2) (fun _ => ?_)
            clear hK K hHeld
            try clear hb
            have hHeld := hHeld2
            clear hHeld2
            try simp only [Act.put, List.setIfInBounds_toArray, List.set_cons_zero, List.set_cons_succ]
            refine wpAnyE_ready (rs := [8]) (by kernel_rfl) (by simp) ?_
            refine AllReadyE.cons (o := ({ dst := some 62, op := Op.call { callee := Callee.value (Operand.func 23), args := #[Operand.tmp 57, Operand.tmp 61], argTypes := #[28, 29] }, type := 69, pos := "match.go:169", after := #[{ on := 3, ground := Ground.data }, { on := 7, ground := Ground.data }], guard := none } : Oper)) rfl (fun K hK => ?_) AllReadyE.nil
            go_simp
            go_at_call 23
            (with_reducible refine (HFO.out _ hHeld).mono ?_)
            rintro e1 W4 ⟨rfl, hb2⟩
            try (have HA := Lib.hid (blk_none HA.out (gb_below hb2)))
            try (have HC := Lib.hid (blk_none HC.out (gb_below hb2)))
            have hHeld2 : (show World → Prop from fun W1 => Below W3.drew.heap.size W3.drew W1) _ := bl_then hHeld hb2
            refine hK.out _ _ (Or.inr hHeld2) (fun _ => ?_)
            clear hK K hHeld
            try clear hb
            have hHeld := hHeld2
            clear hHeld2
            try simp only [Act.put, List.setIfInBounds_toArray, List.set_cons_zero, List.set_cons_succ]
            refine wpAnyE_take (i := 9) (oi := ({ dst := some 53, op := Op.move (Operand.tmp 62), type := 69, pos := "match.go:169", after := #[{ on := 8, ground := Ground.data }], guard := none } : Oper)) (v := ?_) rfl (by kernel_rfl) (by kernel_rfl) (by kernel_rfl) (by kernel_rfl) (fun _ _ _ h => h) (Or.inl ⟨by rfl, ?_⟩) hHeld ?_
            rotate_left
            · intro w' hSw; (try dsimp only at hSw); go_simp <;> with_reducible rfl
            try simp only [Act.put, List.setIfInBounds_toArray, List.set_cons_zero, List.set_cons_succ]
            refine wpAnyE_take (i := 10) (oi := ({ dst := some 63, op := Op.extract (Operand.tmp 53) 0, type := 68, pos := "match.go:169", after := #[{ on := 9, ground := Ground.data }], guard := none } : Oper)) (v := ?_) rfl (by kernel_rfl) (by kernel_rfl) (by kernel_rfl) (by kernel_rfl) (fun _ _ _ h => h) (Or.inl ⟨by rfl, ?_⟩) hHeld ?_
            rotate_left
            · intro w' hSw; (try dsimp only at hSw); go_simp <;> with_reducible rfl
            try simp only [Act.put, List.setIfInBounds_toArray, List.set_cons_zero, List.set_cons_succ]
            refine wpAnyE_ready (rs := [11, 14]) (by kernel_rfl) (by simp) ?_
            refine AllReadyE.cons (o := ({ dst := some 64, op := Op.extract (Operand.tmp 53) 1, type := 68, pos := "match.go:169", after := #[{ on := 9, ground := Ground.data }, { on := 14, ground := Ground.gcOnly Departure.lateStores }], guard := none } : Oper)) rfl (fun K hK => ?_) ?_
            · go_simp
              have hHeld2 : (show World → Prop from fun W1 => Below W3.drew.heap.size W3.drew W1) _ := hHeld
              refine hK.out _ _ (Or.inr hHeld2) (fun _ => ?_)
              clear hK K hHeld
              try clear hb
              have hHeld := hHeld2
              clear hHeld2
              try simp only [Act.put, List.setIfInBounds_toArray, List.set_cons_zero, List.set_cons_succ]
              refine wpAnyE_ready (rs := [14]) (by kernel_rfl) (by simp) ?_
              refine AllReadyE.cons (o := ({ dst := none, op := Op.store 68 (Operand.tmp 11) (Operand.tmp 63), type := 0, pos := "match.go:169", after := #[{ on := 12, ground := Ground.data }, { on := 10, ground := Ground.data }, { on := 8, ground := Ground.chain }, { on := 0, ground := Ground.phase }, { on := 1, ground := Ground.phase }, { on := 2, ground := Ground.phase }, { on := 3, ground := Ground.phase }, { on := 4, ground := Ground.phase }, { on := 5, ground := Ground.phase }, { on := 6, ground := Ground.phase }, { on := 7, ground := Ground.phase }, { on := 8, ground := Ground.phase }, { on := 9, ground := Ground.phase }, { on := 10, ground := Ground.phase }, { on := 11, ground := Ground.textOnly Departure.lateStores }, { on := 12, ground := Ground.phase }, { on := 13, ground := Ground.phase }], guard := none } : Oper)) rfl (fun K hK => ?_) AllReadyE.nil
              rw [if_pos (by rfl)]
              refine wp_store_known 68 (.tmp 11) (.tmp 63) rfl ⟨ga, 0, none⟩ (.agg (faceC fe)) rfl rfl (store_face face0 _ _ ga _ HA.out) ?_
              have HB3 := Lib.hid (below_setRow hHeld HLA.out (faceC fe))
              have HC3 := Lib.hid ((setRow_other _ ga gc (faceC fe) (Ne.symm HNE.out)).trans HC.out)
              have HA3 := Lib.hid (setRow_heap _ ga _ (faceC fe) _ _ HA.out)
              refine hK.out _ _ (Or.inl ⟨14, by simp, by kernel_rfl⟩) (fun _ => ?_)
              clear hK K
              try clear hHeld
              try clear hb
              try simp only [Act.put, List.setIfInBounds_toArray, List.set_cons_zero, List.set_cons_succ]
              refine wpAnyE_ready (rs := [15]) (by kernel_rfl) (by simp) ?_
              refine AllReadyE.cons (o := ({ dst := none, op := Op.store 68 (Operand.tmp 12) (Operand.tmp 64), type := 0, pos := "match.go:169", after := #[{ on := 13, ground := Ground.data }, { on := 11, ground := Ground.data }, { on := 14, ground := Ground.chain }, { on := 0, ground := Ground.phase }, { on := 1, ground := Ground.phase }, { on := 2, ground := Ground.phase }, { on := 3, ground := Ground.phase }, { on := 4, ground := Ground.phase }, { on := 5, ground := Ground.phase }, { on := 6, ground := Ground.phase }, { on := 7, ground := Ground.phase }, { on := 8, ground := Ground.phase }, { on := 9, ground := Ground.phase }, { on := 10, ground := Ground.phase }, { on := 11, ground := Ground.phase }, { on := 12, ground := Ground.phase }, { on := 13, ground := Ground.phase }, { on := 14, ground := Ground.phase }], guard := none } : Oper)) rfl (fun K hK => ?_) AllReadyE.nil
              rw [if_pos (by rfl)]
              refine wp_store_known 68 (.tmp 12) (.tmp 64) rfl ⟨gc, 0, none⟩ (.agg (faceC fo)) rfl rfl (store_face face0 _ _ gc _ HC3.out) ?_
              have HB4 := Lib.hid (below_setRow HB3.out HLC.out (faceC fo))
              have HA4 := Lib.hid ((setRow_other _ gc ga (faceC fo) HNE.out).trans HA3.out)
              refine hK.out _ _ (Or.inl ⟨15, by simp, by kernel_rfl⟩) (fun _ => ?_)
              clear hK K
              try clear hHeld
              try clear hb
              try simp only [Act.put, List.setIfInBounds_toArray, List.set_cons_zero, List.set_cons_succ]
              refine wpAnyE_done (by kernel_rfl) ?_ _
              refine HK10.out _ _ ?_
              exact cancel10 (f := fe) _ _ _ _ _ _ _ _ _ _ _ _ _ _ _ _ _ _ _ _ _ _ _ _ _ _ _ _ _ _ _ _ _ _ _ _ _ _ _ _ _ _ _ _ _ _ _ _ _ _ _ _ _ _ _ _ _ _ _ _ _ _ _ _ _ _ _ _ _ _ _ _ _ _ _ _ _ _ _ _ _ _ _ _ _ _ _ _ _ _ _ _ _ _ _ _ _ _ _ _ _ _ _ _ _ _ _ _ _ _ _ _ _ _ _ _ _ _ _ _ _ _ _ _ _ _ _ _ (HM0.out.grow HB4.out) (HR0.out.grow HB4.out) HWW.out HFW.out HA4.out (blk_none HX0.out (gb_below HB4.out)) HNQ.out HQ.out HS.out HI0.out HND.out (fun c1 a1 a2 w1 h hd1 => ⟨hd1.trans h.1, h.2⟩) (fun T W' v' h1 h2 hm hr => bodyPost_ret (results_tmp2 rfl _ _ _) rfl (show Φ (.returned (.tuple #[T.getD 6 undef, T.getD 7 undef])) W' by rw [h1, h2]; exact HOP.out i j i0 q v' W' HI.out HIP.out HIR.out HTW.out HG.out HPP.out HQ.out (by rw [← HFE.out]; exact HS.out) (by rw [← HFE.out]; exact HLQ.out) HI0.out hm hr))
            refine AllReadyE.cons (o := ({ dst := none, op := Op.store 68 (Operand.tmp 11) (Operand.tmp 63), type := 0, pos := "match.go:169", after := #[{ on := 12, ground := Ground.data }, { on := 10, ground := Ground.data }, { on := 8, ground := Ground.chain }, { on := 0, ground := Ground.phase }, { on := 1, ground := Ground.phase }, { on := 2, ground := Ground.phase }, { on := 3, ground := Ground.phase }, { on := 4, ground := Ground.phase }, { on := 5, ground := Ground.phase }, { on := 6, ground := Ground.phase }, { on := 7, ground := Ground.phase }, { on := 8, ground := Ground.phase }, { on := 9, ground := Ground.phase }, { on := 10, ground := Ground.phase }, { on := 11, ground := Ground.textOnly Departure.lateStores }, { on := 12, ground := Ground.phase }, { on := 13, ground := Ground.phase }], guard := none } : Oper)) rfl (fun K hK => ?_) AllReadyE.nil
            · rw [if_pos (by rfl)]
              refine wp_store_known 68 (.tmp 11) (.tmp 63) rfl ⟨ga, 0, none⟩ (.agg (faceC fe)) rfl rfl (store_face face0 _ _ ga _ HA.out) ?_
              have HB3 := Lib.hid (below_setRow hHeld HLA.out (faceC fe))
              have HC3 := Lib.hid ((setRow_other _ ga gc (faceC fe) (Ne.symm HNE.out)).trans HC.out)
              have HA3 := Lib.hid (setRow_heap _ ga _ (faceC fe) _ _ HA.out)
              refine hK.out _ _ (Or.inl ⟨14, by simp, by kernel_rfl⟩) (fun _ => ?_)
              clear hK K
              try clear hHeld
              try clear hb
              try simp only [Act.put, List.setIfInBounds_toArray, List.set_cons_zero, List.set_cons_succ]
              refine wpAnyE_ready (rs := [11]) (by kernel_rfl) (by simp) ?_
              refine AllReadyE.cons (o := ({ dst := some 64, op := Op.extract (Operand.tmp 53) 1, type := 68, pos := "match.go:169", after := #[{ on := 9, ground := Ground.data }, { on := 14, ground := Ground.gcOnly Departure.lateStores }], guard := none } : Oper)) rfl (fun K hK => ?_) AllReadyE.nil
              go_simp
              refine hK.out _ _ (Or.inl ⟨14, by simp, by kernel_rfl⟩) (fun _ => ?_)
              clear hK K
              try clear hHeld
              try clear hb
              try simp only [Act.put, List.setIfInBounds_toArray, List.set_cons_zero, List.set_cons_succ]
              refine wpAnyE_ready (rs := [15]) (by kernel_rfl) (by simp) ?_
              refine AllReadyE.cons (o := ({ dst := none, op := Op.store 68 (Operand.tmp 12) (Operand.tmp 64), type := 0, pos := "match.go:169", after := #[{ on := 13, ground := Ground.data }, { on := 11, ground := Ground.data }, { on := 14, ground := Ground.chain }, { on := 0, ground := Ground.phase }, { on := 1, ground := Ground.phase }, { on := 2, ground := Ground.phase }, { on := 3, ground := Ground.phase }, { on := 4, ground := Ground.phase }, { on := 5, ground := Ground.phase }, { on := 6, ground := Ground.phase }, { on := 7, ground := Ground.phase }, { on := 8, ground := Ground.phase }, { on := 9, ground := Ground.phase }, { on := 10, ground := Ground.phase }, { on := 11, ground := Ground.phase }, { on := 12, ground := Ground.phase }, { on := 13, ground := Ground.phase }, { on := 14, ground := Ground.phase }], guard := none } : Oper)) rfl (fun K hK => ?_) AllReadyE.nil
              rw [if_pos (by rfl)]
              refine wp_store_known 68 (.tmp 12) (.tmp 64) rfl ⟨gc, 0, none⟩ (.agg (faceC fo)) rfl rfl (store_face face0 _ _ gc _ HC3.out) ?_
              have HB4 := Lib.hid (below_setRow HB3.out HLC.out (faceC fo))
              have HA4 := Lib.hid ((setRow_other _ gc ga (faceC fo) HNE.out).trans HA3.out)
              refine hK.out _ _ (Or.inl ⟨15, by simp, by kernel_rfl⟩) (fun _ => ?_)
              clear hK K
              try clear hHeld
              try clear hb
              try simp only [Act.put, List.setIfInBounds_toArray, List.set_cons_zero, List.set_cons_succ]
              refine wpAnyE_done (by kernel_rfl) ?_ _
              refine HK10.out _ _ ?_
              exact cancel10 (f := fe) _ _ _ _ _ _ _ _ _ _ _ _ _ _ _ _ _ _ _ _ _ _ _ _ _ _ _ _ _ _ _ _ _ _ _ _ _ _ _ _ _ _ _ _ _ _ _ _ _ _ _ _ _ _ _ _ _ _ _ _ _ _ _ _ _ _ _ _ _ _ _ _ _ _ _ _ _ _ _ _ _ _ _ _ _ _ _ _ _ _ _ _ _ _ _ _ _ _ _ _ _ _ _ _ _ _ _ _ _ _ _ _ _ _ _ _ _ _ _ _ _ _ _ _ _ _ _ _ (HM0.out.grow HB4.out) (HR0.out.grow HB4.out) HWW.out HFW.out HA4.out (blk_none HX0.out (gb_below HB4.out)) HNQ.out HQ.out HS.out HI0.out HND.out (fun c1 a1 a2 w1 h hd1 => ⟨hd1.trans h.1, h.2⟩) (fun T W' v' h1 h2 hm hr => bodyPost_ret (results_tmp2 rfl _ _ _) rfl (show Φ (.returned (.tuple #[T.getD 6 undef, T.getD 7 undef])) W' by rw [h1, h2]; exact HOP.out i j i0 q v' W' HI.out HIP.out HIR.out HTW.out HG.out HPP.out HQ.out (by rw [← HFE.out]; exact HS.out) (by rw [← HFE.out]; exact HLQ.out) HI0.out hm hr))
      · obtain ⟨m, hm⟩ : ∃ m : Nat, (es.getD i ent0).pair = (m : Int) := ⟨(es.getD i ent0).pair.toNat, by omega⟩
        have hmp : m < ps.length := by
          have := (HSS.out.ent _ (getD_mem HI.out)).2.2.2.2.2.1
          omega
        have HPP := Lib.hid hpr
        have HMM := Lib.hid hm
        have HMP := Lib.hid hmp
        rw [hm] at g28
        have hm0 : ¬ ((m : Int) < 0) := by omega
        clear hm hmp hpr f30
        go_upto_region 12 with fail
        rename_i hK13
        have HK13 := Lib.hid hK13
        clear hK13
        obtain ⟨cc, cf⟩ := entCell_facts HM2.out rfl (k := 29) HI.out (by decide)
        have ca : W2.cell? ⟨eg, i * 31 + 29, none⟩ = some (.bool (es.getD i ent0).asked) := cc
        clear cc
        go_wp2
        obtain ⟨hm3, hg3⟩ := HM2.out.entCell rfl HI.out (k := 29) (by decide) (.bool true) { es.getD i ent0 with asked := true } (entC_asked _ _) rfl rfl
        have HM3 := Lib.hid hm3
        have HR3 := Lib.hid (HR2.out.row HM2.out.rE (by decide) hg3)
        clear hm3 hg3 ca cf
        generalize W2.setCell ⟨eg, i * 31 + 29, none⟩ (.bool true) = W3 at HM3 HR3 ⊢
        refine HK13.out _ _ ?_
        exact cancel13 _ _ _ _ _ _ _ _ _ _ _ _ _ _ _ _ _ _ _ _ _ _ _ _ _ _ _ _ _ _ _ _ _ _ _ _ _ _ _ _ _ _ _ _ _ _ _ _ _ _ _ _ _ _ _ _ _ _ _ _ _ _ _ _ _ _ _ _ _ _ _ _ _ _ _ _ _ _ _ _ _ _ _ _ _ _ _ _ _ _ _ _ _ _ _ _ _ _ _ _ _ _ _ _ _ _ _ _ _ _ _ _ _ _ _ _ _ _ _ _ _ _ _ _ _ _ _ _ _ HM3.out HR3.out HSS.out HI.out HG.out HMM.out HMP.out (fun W' h1 h2 => HPR.out i W' HI.out HIP.out HIR.out HTW.out HG.out HPP.out h1 h2)
end Go.Proofs.YtphabkaiheplpaaGreatDoor
