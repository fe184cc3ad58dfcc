/- Joined texts of this proof: RsL. -/
import Derived.Outline
import Derived.Test.YtphabkaiheplpaaGreatDoorRests44
/- custodylaw22.lost by contract: who is gone. -/
set_option linter.unusedVariables false
set_option linter.unusedSimpArgs false
set_option maxRecDepth 100000
namespace Go.Proofs.YtphabkaiheplpaaGreatDoor
open Go.RowKit Go.Shelf Go.Maps

def onL (L : List Nat) (Q : List Pr) (k : Nat) : Nat := if inL L Q k then 1 else 0
theorem onL_nil (n : Nat) : times n (onL [] []) = times n fun _ => 0 := times_congr (fun i _ => rfl)
theorem onL_snoc (L : List Nat) (x i : Nat) : onL (L ++ [x]) [] i = if i = x then 1 else onL L [] i := by
  unfold onL inL
  rw [List.contains_eq_any_beq, List.contains_eq_any_beq, List.any_append]
  by_cases h : i = x
  · subst h; rw [if_pos rfl]; simp
  · rw [if_neg h]
    have : (i == x) = false := beq_false_of_ne h
    simp [this]
theorem onL_pair (L : List Nat) (Q : List Pr) (q : Pr) (i : Nat) : onL L (Q ++ [q]) i = if i = q.r then 1 else if i = q.d then 1 else onL L Q i := by
  unfold onL inL
  rw [List.any_append]
  by_cases h1 : i = q.r
  · subst h1; rw [if_pos rfl]; simp
  · rw [if_neg h1]
    have e1 : (q.r == i) = false := beq_false_of_ne (Ne.symm h1)
    by_cases h2 : i = q.d
    · subst h2; rw [if_pos rfl]; simp
    · rw [if_neg h2]
      have e2 : (q.d == i) = false := beq_false_of_ne (Ne.symm h2)
      simp [e1, e2]
theorem flags_snoc (k : Nat) (f : Nat → Bool) : flags k f ++ [.bool (f k)] = flags (k + 1) f := by
  unfold flags
  rw [List.range_succ, List.map_append]
  rfl
theorem flags_length (n : Nat) (f : Nat → Bool) : (flags n f).length = n := by simp [flags]
theorem infoBo : (Tryz.prog.info? 4).map (fun i => (i.zero, i.size, i.bytes)) = some (some (.bool false), 1, 1) := by kernel_rfl
/-- A row stays where a row of another kind grows. -/
theorem ow_row {W W1 : World} {base base2 : Nat} {e e2 : TypeId} {size n size2 n2 : Nat} {v v2 : Value} {xs ys : List Value} (h : W.ownsRow base e size v n xs) (h2 : W.ownsRow base2 e2 size2 v2 n2 ys) (hne : e ≠ e2) (hs : W.grownBy W1 v2.ownBlock) : W1.ownsRow base e size v n xs := by
  cases ho : v2.ownBlock with
  | none => rw [ho] at hs; exact ow_none h hs
  | some g =>
    rw [ho] at hs
    obtain ⟨cur, hc⟩ := row_obj h2 ho
    exact ow_other h hc hne hs
noncomputable def lostR (n : Nat) : Code := ((Tryz.f14.body.bind (fromR n)).getD .skip)
set_option maxHeartbeats 8000000 in
set_option maxRecDepth 1000000 in
theorem lost16 {W0 W : World} {S G : Option Addr} {n cs cg tb : Nat} {gl : Nat → Bool} {L : List Nat} {Q : List Pr} (u0 u3 u4 u5 u6 u8 u9 u10 u11 u12 u13 u14 u15 u16 u17 u18 u19 u20 u21 u22 u23 u24 u25 u26 u27 u28 u29 u30 u31 u32 u33 u34 u35 u36 u37 u38 u39 u40 u41 u42 u43 u44 u45 u46 u47 u48 u49 u50 u51 u52 u53 u54 u55 u56 u57 u58 u59 u60 u61 u62 u63 u64 u65 u66 u67 u68 u69 u70 u71 u72 u73 u74 u75 u76 u77 u78 u79 u80 u81 u82 u83 u84 u85 u86 u87 u88 u89 u90 u91 u92 u93 u94 u95 u96 u97 u98 u99 u100 u101 u102 u103 u104 u105 u106 u107 u108 : Value) {Φ : Ending → World → Prop}
    (hl : Below W0.heap.size W0 W) (hg : W0.ownsRow 0 4 1 (.slice G n cg) n (flags n gl)) (ht : W.ownsRow 0 3 1 (.slice (some ⟨tb, 0, none⟩) n n) n (times n (onL L Q))) (hn : n ≤ 1000000000000)
    (post : ∀ v W', Below W0.heap.size W0 W' → W'.ownsRow W0.heap.size 4 1 v n (flags n fun k => gl k || !inL L Q k) → Φ (.returned v) W') :
    Code.wp Tryz.prog (lostR 16) (bodyPost Tryz.prog Tryz.f14 Φ) ⟨#[u0, .slice S n cs, .slice G n cg, u3, u4, u5, u6, .slice (some ⟨tb, 0, none⟩) n n, u8, u9, u10, u11, u12, u13, u14, u15, u16, u17, u18, u19, u20, u21, u22, u23, u24, u25, u26, u27, u28, u29, u30, u31, u32, u33, u34, u35, u36, u37, u38, u39, u40, u41, u42, u43, u44, u45, u46, u47, u48, u49, u50, u51, u52, u53, u54, u55, u56, u57, u58, u59, u60, u61, u62, u63, u64, u65, u66, u67, u68, u69, u70, u71, u72, u73, u74, u75, u76, u77, u78, u79, u80, u81, u82, u83, u84, u85, u86, u87, u88, u89, u90, u91, u92, u93, u94, u95, u96, u97, u98, u99, u100, u101, u102, u103, u104, u105, u106, u107, u108], []⟩ W := by
  obtain ⟨i0, hi, hz0, hz1, hz2⟩ := Sp.info_of infoBo
  have HG := Lib.hid hg
  have HT := Lib.hid ht
  have HL := Lib.hid hl
  have HN := Lib.hid hn
  have HPO := Lib.hid post
  clear hg ht hl hn post
  conv => arg 2; whnf
  dsimp only
  go_wp2
  go_loopg [13, 14] n (fun g v13 v14 wr => ∃ k : Nat, v14 = .int .i64 k ∧ k ≤ n ∧ n - k ≤ g ∧ Hid (Below W0.heap.size W0 wr) ∧ Hid (wr.ownsRow 0 3 1 (.slice (some ⟨tb, 0, none⟩) n n) n (times n (onL L Q))) ∧ Hid (wr.ownsRow W0.heap.size 4 1 v13 k (flags k fun k => gl k || !inL L Q k)))
  case atStart => exact ⟨0, rfl, by omega, by omega, HL, HT, Lib.hid (ow_nil _ _ _ _)⟩
  case round =>
    obtain ⟨k, rfl, hk, hg, HB, HTR, HOR⟩ := hrel
    obtain ⟨A1, c1, e1⟩ := ow_slice HOR.out
    subst e1
    by_cases hlt : k < n
    · have hltz : (k : Int) < (n : Int) := by omega
      have hk63 : (k : Int) + 1 ≤ 2000000000000 := by have := HN.out; omega
      obtain ⟨gg, rfl⟩ := own_addr HG.out (by omega)
      have cg1 : wr.cell? ⟨gg, k, none⟩ = some (.bool (gl k)) := by have := (ow_none HG.out (gb_below HB.out)).cellAt k (by omega); rw [flags_at gl hlt] at this; exact this
      have ct1 : wr.cell? ⟨tb, k, none⟩ = some (.int .i64 (onL L Q k : Int)) := by have := HTR.out.cellAt k (by omega); rw [times_at _ hlt] at this; exact this
      have HFS := Lib.hid (flags_snoc k (fun k => gl k || !inL L Q k))
      have key : ∀ v, v = (gl k || !inL L Q k) → Hid (.bool v = Value.bool (gl k || !inL L Q k)) := fun v h => Lib.hid (by rw [h])
      cases hgl : gl k with
      | true =>
        rw [hgl] at cg1
        have HV := key true (by rw [hgl]; rfl)
        go_wp2_with (at_builtin; have hb4 := bl_alloc (bl_refl wr) (.cells #[.bool true] 4); have HB4 := Lib.hid (bl_then HB.out hb4); have HT4 := Lib.hid (ow_none HTR.out (gb_below hb4)); have HO4 := Lib.hid (ow_none HOR.out (gb_below hb4)); have HC4 := Lib.hid (heap_alloc_new wr (.cells #[.bool true] 4)); clear hb4 HB HTR HOR cg1 ct1; generalize wr.alloc (.cells #[.bool true] 4) = W4 at HB4 HT4 HO4 HC4 ⊢; generalize wr.heap.size = N4 at HC4 ⊢; refine wpList_append_new rfl (.tmp 94) (.tmp 106) 44 rfl W0.heap.size 4 i0 (.bool false) 1 1 Tryz.underlying44 hi hz0 hz1 hz2 rfl (by decide) (.slice A1 k c1) k (flags k fun k => gl k || !inL L Q k) rfl HO4.out ⟨N4, 0, none⟩ 1 1 [.bool true] rfl rfl (cells_one' HC4.out) (by simp [Value.oneCell']) (by have := HN.out; unfold maxLen; omega) (by have := HN.out; omega) HB4.out.size (by decide) ?_; intro v' W5 hown hgrow hnew; have HB5 := Lib.hid (below_grown HB4.out HO4.out hgrow HB4.out.size); have HT5 := Lib.hid (ow_row HT4.out HO4.out (by decide) hgrow); have HO5 := Lib.hid hown; clear hown hgrow hnew HB4 HT4 HO4 HC4)
        go_roundg (n - (k + 1))
        case measure => omega
        case rel => exact ⟨k + 1, by go_num, by omega, by omega, HB5, HT5, Lib.hid (by rw [← HFS.out, ← HV.out]; exact HO5.out)⟩
      | false =>
        rw [hgl] at cg1
        cases hin : inL L Q k with
        | true =>
          have HV := key false (by rw [hgl, hin]; rfl)
          have ct2 : wr.cell? ⟨tb, k, none⟩ = some (.int .i64 1) := by rw [ct1]; unfold onL; rw [hin]; rfl
          clear ct1
          have ct1 := ct2
          clear ct2
          go_wp2_with (at_builtin; have hb4 := bl_alloc (bl_refl wr) (.cells #[.bool false] 4); have HB4 := Lib.hid (bl_then HB.out hb4); have HT4 := Lib.hid (ow_none HTR.out (gb_below hb4)); have HO4 := Lib.hid (ow_none HOR.out (gb_below hb4)); have HC4 := Lib.hid (heap_alloc_new wr (.cells #[.bool false] 4)); clear hb4 HB HTR HOR cg1 ct1; generalize wr.alloc (.cells #[.bool false] 4) = W4 at HB4 HT4 HO4 HC4 ⊢; generalize wr.heap.size = N4 at HC4 ⊢; refine wpList_append_new rfl (.tmp 94) (.tmp 106) 44 rfl W0.heap.size 4 i0 (.bool false) 1 1 Tryz.underlying44 hi hz0 hz1 hz2 rfl (by decide) (.slice A1 k c1) k (flags k fun k => gl k || !inL L Q k) rfl HO4.out ⟨N4, 0, none⟩ 1 1 [.bool false] rfl rfl (cells_one' HC4.out) (by simp [Value.oneCell']) (by have := HN.out; unfold maxLen; omega) (by have := HN.out; omega) HB4.out.size (by decide) ?_; intro v' W5 hown hgrow hnew; have HB5 := Lib.hid (below_grown HB4.out HO4.out hgrow HB4.out.size); have HT5 := Lib.hid (ow_row HT4.out HO4.out (by decide) hgrow); have HO5 := Lib.hid hown; clear hown hgrow hnew HB4 HT4 HO4 HC4)
          go_roundg (n - (k + 1))
          case measure => omega
          case rel => exact ⟨k + 1, by go_num, by omega, by omega, HB5, HT5, Lib.hid (by rw [← HFS.out, ← HV.out]; exact HO5.out)⟩
        | false =>
          have HV := key true (by rw [hgl, hin]; rfl)
          have ct2 : wr.cell? ⟨tb, k, none⟩ = some (.int .i64 0) := by rw [ct1]; unfold onL; rw [hin]; rfl
          clear ct1
          have ct1 := ct2
          clear ct2
          go_wp2_with (at_builtin; have hb4 := bl_alloc (bl_refl wr) (.cells #[.bool true] 4); have HB4 := Lib.hid (bl_then HB.out hb4); have HT4 := Lib.hid (ow_none HTR.out (gb_below hb4)); have HO4 := Lib.hid (ow_none HOR.out (gb_below hb4)); have HC4 := Lib.hid (heap_alloc_new wr (.cells #[.bool true] 4)); clear hb4 HB HTR HOR cg1 ct1; generalize wr.alloc (.cells #[.bool true] 4) = W4 at HB4 HT4 HO4 HC4 ⊢; generalize wr.heap.size = N4 at HC4 ⊢; refine wpList_append_new rfl (.tmp 94) (.tmp 106) 44 rfl W0.heap.size 4 i0 (.bool false) 1 1 Tryz.underlying44 hi hz0 hz1 hz2 rfl (by decide) (.slice A1 k c1) k (flags k fun k => gl k || !inL L Q k) rfl HO4.out ⟨N4, 0, none⟩ 1 1 [.bool true] rfl rfl (cells_one' HC4.out) (by simp [Value.oneCell']) (by have := HN.out; unfold maxLen; omega) (by have := HN.out; omega) HB4.out.size (by decide) ?_; intro v' W5 hown hgrow hnew; have HB5 := Lib.hid (below_grown HB4.out HO4.out hgrow HB4.out.size); have HT5 := Lib.hid (ow_row HT4.out HO4.out (by decide) hgrow); have HO5 := Lib.hid hown; clear hown hgrow hnew HB4 HT4 HO4 HC4)
          go_roundg (n - (k + 1))
          case measure => omega
          case rel => exact ⟨k + 1, by go_num, by omega, by omega, HB5, HT5, Lib.hid (by rw [← HFS.out, ← HV.out]; exact HO5.out)⟩
    · have e0 : k = n := by omega
      subst e0
      go_wp2
      exact HPO.out _ _ HB.out HOR.out
set_option maxHeartbeats 8000000 in
set_option maxRecDepth 1000000 in
theorem lost_any {F : Nat → Prop} {W : World} {b : Nat} {zs : List ByteArray} {tol : Int} {es : List Ent} {ps : List Pr} {S G : Option Addr} {n cs cg : Nat} {gl : Nat → Bool}
    (hB : BkI F W b zs tol es ps) (hst : StOk zs es ps) (hen : es.length = n) (hpn : ps.length ≤ 1000000000000) (hn : n ≤ 1000000000000) (hg : W.ownsRow 0 4 1 (.slice G n cg) n (flags n gl)) :
    Calls Tryz.prog 14 #[.pointer (some ⟨b, 0, none⟩), .slice S n cs, .slice G n cg] W fun e w' => ∃ v, e = .returned v ∧ w'.ownsRow W.heap.size 4 1 v n (flags n fun k => gl k || !inL (openL es) (stand ps) k) ∧ Below W.heap.size W w' := by
  obtain ⟨w1, mk, hown, hb1⟩ := make_ints W n hn
  have htb : W.heap.size < w1.heap.size := row_lt hown rfl
  have HB1 := Lib.hid hb1
  have HT1 := Lib.hid hown
  have HTB := Lib.hid htb
  have HG := Lib.hid hg
  have HN := Lib.hid hn
  have HOP := Lib.hid (open_any (hB.grow hb1) (by omega))
  have HLM : Hid (∀ x ∈ openL es, x < n) := Lib.hid (fun x hx => by have := (openL_mem.1 hx).1; omega)
  have HLB : Hid ((openL es).length ≤ 1000000000000) := Lib.hid (by have := openL_le es; omega)
  have HQ : Hid (∀ q ∈ stand ps, q.d < n ∧ q.r < n) := Lib.hid (fun q hq => by
    obtain ⟨m, hm, rfl, hgm⟩ := stand_mem hq
    have hp := hst.prs _ (pr_mem hm)
    exact ⟨by omega, by omega⟩)
  have HQL : Hid ((stand ps).length ≤ 1000000000000) := Lib.hid (by have := stand_le ps; omega)
  have HPA := Lib.hid (fun w2 (h : Below W.heap.size W w2) => pairs_any (hB.grow h) hpn)
  clear hB hst hen hpn hn hg hown hb1 htb
  go_enter Tryz.func14, Tryz.ntmps14
  go_upto_region 2 with fail
  clear mk
  go_upto_region 3 with (go_at_call 36; (with_reducible refine HOP.out.mono ?_); rintro e w2 ⟨vo, rfl, hown, hb⟩; obtain ⟨O1, co, rfl⟩ := ow_slice hown; have HSZ := Lib.hid hb.size; have HB2 := Lib.hid (bl_then HB1.out hb); have HT2 := Lib.hid (ow_none HT1.out (gb_below hb)); have HO2 := Lib.hid (own_low hown (show W.heap.size + 1 ≤ w1.heap.size from HTB.out)); clear hown hb)
  clear HB1 HT1 HOP
  go_upto_region 4 with (go_at_call 11; (with_reducible refine (HPA.out w2 HB2.out).mono ?_); rintro e w3 ⟨vp, rfl, hown, hb⟩; obtain ⟨P1, cp, rfl⟩ := ow_slice hown; have HB3 := Lib.hid (bl_then HB2.out hb); have HT3 := Lib.hid (ow_none HT2.out (gb_below hb)); have HO3 := Lib.hid (ow_none HO2.out (gb_below hb)); have HP3 := Lib.hid (own_low hown (show W.heap.size + 1 ≤ w2.heap.size from Nat.le_trans HTB.out HSZ.out)); clear hown hb)
  clear HB2 HT2 HO2 HPA
  generalize hLe : openL es = L at HLM HLB HO3 ⊢
  generalize hQe : stand ps = Q at HQ HQL HP3 ⊢
  have HLE := Lib.hid hLe
  have HQE := Lib.hid hQe
  clear hLe hQe
  obtain ⟨tb, htbe⟩ : ∃ tb, tb = W.heap.size := ⟨_, rfl⟩
  have HTBE := Lib.hid htbe
  rw [← onL_nil] at HT3
  rw [← htbe] at HT3 HO3 HP3 ⊢
  clear htbe HTB HSZ
  go_wp2
  rename_i hK9
  go_loopg [10] L.length (fun g v10 wr => ∃ k : Nat, v10 = .int .i64 k ∧ k ≤ L.length ∧ L.length - k ≤ g ∧ Hid (Below W.heap.size W wr) ∧ Hid (wr.ownsRow (tb + 1) 3 1 (.slice O1 L.length co) L.length (L.map natV)) ∧ Hid (wr.ownsRow (tb + 1) 76 3 (.slice P1 Q.length cp) Q.length (Q.flatMap apC)) ∧ Hid (wr.ownsRow 0 3 1 (.slice (some ⟨tb, 0, none⟩) n n) n (times n (onL (L.take k) []))))
  case atStart => exact ⟨0, rfl, by omega, by omega, HB3, HO3, HP3, HT3⟩
  case round =>
    obtain ⟨k, rfl, hk, hg, HB, HOR, HPR, HTR⟩ := hrel
    by_cases hlt : k < L.length
    · have hltz : (k : Int) < (L.length : Int) := by omega
      have hk63 : (k : Int) + 1 ≤ 2000000000000 := by have := HLB.out; omega
      obtain ⟨og, rfl⟩ := own_addr HOR.out (by omega)
      have cL := nat_row HOR.out rfl hlt
      have hxn : L.getD k 0 < n := HLM.out _ (getD_mem_nat hlt)
      have HTK : Hid (L.take (k + 1) = L.take k ++ [L.getD k 0]) := Lib.hid (by rw [List.take_add_one, List.getD_eq_getElem?_getD, List.getElem?_eq_getElem hlt]; rfl)
      generalize L.getD k 0 = x at cL hxn HTK
      have HXN := Lib.hid hxn
      have x1 : decide ((0 : Int) ≤ (x : Int)) = true := decide_eq_true (by omega)
      have x2 : (x : Int) < (n : Int) := by omega
      have x3 : decide ((x : Int) < (n : Int)) = true := decide_eq_true (by omega)
      have ct : wr.cell? ⟨tb, x, none⟩ = some (.int .i64 (onL (L.take k) [] x : Int)) := by have := HTR.out.cellAt x (by rw [Nat.mul_one]; exact HXN.out); rw [times_at _ HXN.out] at this; exact this
      have ft : wr.frozen? ⟨tb, x, none⟩ = false := HTR.out.frozenAt _
      clear hxn
      go_wp2
      have hst := HTR.out.stored x (.int .i64 (((1 : Nat) : Int)))
      rw [times_set _ _ HXN.out] at hst
      have HB5 : Hid (Below W.heap.size W (wr.setCell ⟨tb, x, none⟩ (.int .i64 1))) := Lib.hid (HB.out.setCell (by rw [HTBE.out]; exact Nat.le_refl _) _)
      have HP5 : Hid ((wr.setCell ⟨tb, x, none⟩ (.int .i64 1)).ownsRow (tb + 1) 76 3 (.slice P1 Q.length cp) Q.length (Q.flatMap apC)) := Lib.hid (ow_set2 HPR.out _ _ (Nat.lt_succ_self _))
      have HO5 : Hid ((wr.setCell ⟨tb, x, none⟩ (.int .i64 1)).ownsRow (tb + 1) 3 1 (.slice (some ⟨og, 0, none⟩) L.length co) L.length (L.map natV)) := Lib.hid (ow_set2 HOR.out _ _ (Nat.lt_succ_self _))
      have HT5 : Hid ((wr.setCell ⟨tb, x, none⟩ (.int .i64 1)).ownsRow 0 3 1 (.slice (some ⟨tb, 0, none⟩) n n) n (times n (onL (L.take (k + 1)) []))) := Lib.hid (by
        have e1 : times n (onL (L.take (k + 1)) []) = times n (fun i => if i = x then 1 else onL (L.take k) [] i) := times_congr (fun i _ => by rw [HTK.out, onL_snoc])
        rw [e1]
        exact hst.1)
      go_roundg (L.length - (k + 1))
      case measure => omega
      case rel => exact ⟨k + 1, by go_num, by omega, by omega, HB5, HO5, HP5, HT5⟩
    · have e0 : k = L.length := by omega
      subst e0
      have HTL : Hid (wr.ownsRow 0 3 1 (.slice (some ⟨tb, 0, none⟩) n n) n (times n (onL L []))) := Lib.hid (by
        have h1 := HTR.out
        rw [List.take_length] at h1
        exact h1)
      clear HTR
      go_upto_if 25 with fail
      refine wp_cond_false rfl (wp_exit ?_)
      refine hK9 _ _ ?_
      have HBL := Lib.hid HB.out
      have HPL := Lib.hid HPR.out
      clear HB HOR HPR HB3 HO3 HP3 HT3
      generalize wr = Wl at HBL HPL HTL ⊢
      go_wp2
      rename_i hK16
      go_loopg [11, 12] Q.length (fun g v11 v12 wr => ∃ k : Nat, v11 = .int .i64 k ∧ k ≤ Q.length ∧ Q.length - k ≤ g ∧ Hid (Below W.heap.size W wr) ∧ Hid (wr.ownsRow (tb + 1) 76 3 (.slice P1 Q.length cp) Q.length (Q.flatMap apC)) ∧ Hid (wr.ownsRow 0 3 1 (.slice (some ⟨tb, 0, none⟩) n n) n (times n (onL L (Q.take k)))))
      case atStart => exact ⟨0, rfl, by omega, by omega, HBL, HPL, HTL⟩
      case round =>
        clear HBL HPL HTL
        obtain ⟨k, rfl, hk, hg, HB, HPR, HTR⟩ := hrel
        by_cases hlt : k < Q.length
        · have hltz : (k : Int) < (Q.length : Int) := by omega
          have hk63 : (k : Int) + 1 ≤ 2000000000000 := by have := HQL.out; omega
          obtain ⟨pg, rfl⟩ := own_addr HPR.out (by omega)
          have hqk := HQ.out (Q.getD k pr0) (pr_mem hlt)
          have htk : Q.take (k + 1) = Q.take k ++ [Q.getD k pr0] := by rw [List.take_add_one, List.getD_eq_getElem?_getD, List.getElem?_eq_getElem hlt]; rfl
          have cc : ∀ j, j < 3 → wr.cell? ⟨pg, k * 3 + j, none⟩ = (apC (Q.getD k pr0))[j]? := fun j hj => by rw [HPR.out.cellAt (k * 3 + j) (by omega), aps_at Q k j hlt hj]
          generalize Q.getD k pr0 = q at hqk htk cc
          have d0 : wr.cell? ⟨pg, k * 3, none⟩ = some (.int .i64 (q.d : Int)) := cc 0 (by omega)
          have d1 : wr.cell? ⟨pg, k * 3 + 1, none⟩ = some (.int .i64 (q.r : Int)) := cc 1 (by omega)
          have d2 : wr.cell? ⟨pg, k * 3 + 2, none⟩ = some (.int .i64 q.a) := cc 2 (by omega)
          have HQK := Lib.hid hqk
          have HTK := Lib.hid htk
          clear cc hqk htk
          go_upto_region 13 with fail
          have hb3 := bl_alloc (bl_refl wr) (.cells #[.int .i64 (q.d : Int), .int .i64 (q.r : Int), .int .i64 q.a] 76)
          have HB3 := Lib.hid (bl_then HB.out hb3)
          have HP3 := Lib.hid (ow_none HPR.out (gb_below hb3))
          have HT3 := Lib.hid (ow_none HTR.out (gb_below hb3))
          have g3 := heap_alloc_new wr (.cells #[.int .i64 (q.d : Int), .int .i64 (q.r : Int), .int .i64 q.a] 76)
          have HNT : Hid (tb < wr.heap.size) := Lib.hid (row_lt HTR.out rfl)
          clear hb3 HB HPR HTR d0 d1 d2
          generalize wr.alloc (.cells #[.int .i64 (q.d : Int), .int .i64 (q.r : Int), .int .i64 q.a] 76) = W3 at HB3 HP3 HT3 g3 ⊢
          generalize wr.heap.size = N at g3 HNT ⊢
          have HG3 := Lib.hid g3
          have e0 : W3.cell? ⟨N, 0, none⟩ = some (.int .i64 (q.d : Int)) := cell_of_row W3 N 0 _ _ _ g3
          have e1 : W3.cell? ⟨N, 1, none⟩ = some (.int .i64 (q.r : Int)) := cell_of_row W3 N 1 _ _ _ g3
          have x1 : decide ((0 : Int) ≤ (q.d : Int)) = true := decide_eq_true (by omega)
          have x2 : (q.d : Int) < (n : Int) := by have := HQK.out.1; omega
          have x3 : decide ((0 : Int) ≤ (q.r : Int)) = true := decide_eq_true (by omega)
          have x4 : (q.r : Int) < (n : Int) := by have := HQK.out.2; omega
          have x5 : decide ((q.d : Int) < (n : Int)) = true := decide_eq_true x2
          have x6 : decide ((q.r : Int) < (n : Int)) = true := decide_eq_true x4
          have ct : W3.cell? ⟨tb, q.d, none⟩ = some (.int .i64 (onL L (Q.take k) q.d : Int)) := by have := HT3.out.cellAt q.d (by rw [Nat.mul_one]; exact HQK.out.1); rw [times_at _ HQK.out.1] at this; exact this
          have ft : W3.frozen? ⟨tb, q.d, none⟩ = false := HT3.out.frozenAt _
          clear g3
          go_upto_region 15 with fail
          have hst := HT3.out.stored q.d (.int .i64 (((1 : Nat) : Int)))
          rw [times_set _ _ HQK.out.1] at hst
          have HB5 : Hid (Below W.heap.size W (W3.setCell ⟨tb, q.d, none⟩ (.int .i64 1))) := Lib.hid (HB3.out.setCell (by rw [HTBE.out]; exact Nat.le_refl _) _)
          have HP5 : Hid ((W3.setCell ⟨tb, q.d, none⟩ (.int .i64 1)).ownsRow (tb + 1) 76 3 (.slice (some ⟨pg, 0, none⟩) Q.length cp) Q.length (Q.flatMap apC)) := Lib.hid (ow_set2 HP3.out _ _ (Nat.lt_succ_self _))
          have HT5 : Hid ((W3.setCell ⟨tb, q.d, none⟩ (.int .i64 1)).ownsRow 0 3 1 (.slice (some ⟨tb, 0, none⟩) n n) n (times n (fun i => if i = q.d then 1 else onL L (Q.take k) i))) := Lib.hid hst.1
          have HG5 := Lib.hid (blk_ne HG3.out (show N ≠ tb by have := HNT.out; omega) (gb_cell W3 ⟨tb, q.d, none⟩ (.int .i64 1)))
          clear hst HB3 HP3 HT3 HG3 e0 e1 ct ft
          generalize W3.setCell ⟨tb, q.d, none⟩ (.int .i64 1) = W5 at HB5 HP5 HT5 HG5 ⊢
          have e1 : W5.cell? ⟨N, 1, none⟩ = some (.int .i64 (q.r : Int)) := cell_of_row W5 N 1 _ _ _ HG5.out
          have ct : W5.cell? ⟨tb, q.r, none⟩ = some (.int .i64 ((if q.r = q.d then 1 else onL L (Q.take k) q.r : Nat) : Int)) := by have := HT5.out.cellAt q.r (by rw [Nat.mul_one]; exact HQK.out.2); rw [times_at _ HQK.out.2] at this; exact this
          have ft : W5.frozen? ⟨tb, q.r, none⟩ = false := HT5.out.frozenAt _
          go_wp2
          have hst := HT5.out.stored q.r (.int .i64 (((1 : Nat) : Int)))
          rw [times_set _ _ HQK.out.2] at hst
          have HB7 : Hid (Below W.heap.size W (W5.setCell ⟨tb, q.r, none⟩ (.int .i64 1))) := Lib.hid (HB5.out.setCell (by rw [HTBE.out]; exact Nat.le_refl _) _)
          have HP7 : Hid ((W5.setCell ⟨tb, q.r, none⟩ (.int .i64 1)).ownsRow (tb + 1) 76 3 (.slice (some ⟨pg, 0, none⟩) Q.length cp) Q.length (Q.flatMap apC)) := Lib.hid (ow_set2 HP5.out _ _ (Nat.lt_succ_self _))
          have HT7 : Hid ((W5.setCell ⟨tb, q.r, none⟩ (.int .i64 1)).ownsRow 0 3 1 (.slice (some ⟨tb, 0, none⟩) n n) n (times n (onL L (Q.take (k + 1))))) := Lib.hid (by
            have e1 : times n (onL L (Q.take (k + 1))) = times n (fun i => if i = q.r then 1 else if i = q.d then 1 else onL L (Q.take k) i) := times_congr (fun i _ => by rw [HTK.out, onL_pair])
            rw [e1]
            exact hst.1)
          go_roundg (Q.length - (k + 1))
          case measure => omega
          case rel => exact ⟨k + 1, by go_num, by omega, by omega, HB7, HP7, HT7⟩
        · have e0 : k = Q.length := by omega
          subst e0
          have HTF : Hid (wr.ownsRow 0 3 1 (.slice (some ⟨tb, 0, none⟩) n n) n (times n (onL L Q))) := Lib.hid (by
            have h1 := HTR.out
            rw [List.take_length] at h1
            exact h1)
          clear HTR
          go_upto_if 51 with fail
          refine wp_cond_false rfl (wp_exit ?_)
          refine hK16 _ _ ?_
          exact lost16 _ _ _ _ _ _ _ _ _ _ _ _ _ _ _ _ _ _ _ _ _ _ _ _ _ _ _ _ _ _ _ _ _ _ _ _ _ _ _ _ _ _ _ _ _ _ _ _ _ _ _ _ _ _ _ _ _ _ _ _ _ _ _ _ _ _ _ _ _ _ _ _ _ _ _ _ _ _ _ _ _ _ _ _ _ _ _ _ _ _ _ _ _ _ _ _ _ _ _ _ _ _ _ _ _ _ HB.out HG.out HTF.out HN.out (fun v W' h1 h2 => ⟨v, rfl, by rw [HLE.out, HQE.out]; exact h2, h1⟩)
end Go.Proofs.YtphabkaiheplpaaGreatDoor
