/- Joined texts of this proof: BkCb. -/
import Derived.Outline
import Derived.BigQuiet
import Derived.Test.YtphabkaiheplpaaGreatDoorRests29
/- (*match.Book).Cancel, its piece for a side in a pair. -/
set_option linter.unusedVariables false
set_option linter.unusedSimpArgs false
set_option maxRecDepth 100000
namespace Go.Proofs.YtphabkaiheplpaaGreatDoor
open Go.RowKit Go.Shelf Go.Maps
open Go.ChangeMaps (setBlock)

theorem store_bool {W : World} {ad : Addr} {old : Value} (v : Bool) (hc : W.cell? ad = some old) (hf : W.frozen? ad = false) : (storeVar 4 ad (.bool v)).run Tryz.prog W = .ok () (W.setCell ad (.bool v)) := by
  have h1 := Tryz.isAgg4
  simp [storeVar, go_sem, hc, hf, h1]
set_option maxHeartbeats 8000000 in
set_option maxRecDepth 1000000 in
theorem cancel13 {F : Nat → Prop} {w W : World} {b eg ec : Nat} {tv pv : Value} {m1 m2 : Nat} {ws : List Wq} {zs : List ByteArray} {tol : Int} {nm : List (Value × Value)} {es : List Ent} {ps : List Pr} {i m : Nat} (u1 u2 u3 u4 u5 u6 u7 u8 u9 u11 u12 u13 u14 u15 u16 u17 u18 u19 u20 u21 u22 u23 u24 u25 u26 u27 u28 u29 u30 u31 u32 u33 u34 u35 u36 u37 u38 u39 u40 u41 u42 u43 u44 u45 u46 u47 u48 u49 u50 u51 u52 u53 u54 u55 u56 u57 u58 u59 u60 u61 u62 u63 u64 u65 u66 u67 u68 u69 u70 u71 u72 u73 u74 u75 u76 u77 u78 u79 u80 u81 u82 u83 u84 u85 u86 u87 u88 u89 u90 u91 u92 u93 u94 u95 u96 u97 u98 u99 u100 u101 u102 u103 u104 u105 u106 u107 u108 u109 u110 u111 u112 u113 u114 u115 u116 u117 u118 u119 u120 u121 u122 u123 u124 u125 u126 u127 u128 u129 u130 : Value) {Φ : Ending → World → Prop}
    (HM : BkM F w W b tv (.slice (some ⟨eg, 0, none⟩) es.length ec) pv m1 m2 (ws.map kwF) #[tv, .int .i64 tol, .slice (some ⟨eg, 0, none⟩) es.length ec, .map (some m1), .map (some m2), pv] zs nm (es.set i { es.getD i ent0 with asked := true }) ps) (HR : WsR F w.heap.size W ws) (HS : StOk zs es ps)
    (hi : i < es.length) (hg : (es.getD i ent0).gone = false) (hm : (es.getD i ent0).pair = (m : Int)) (hmp : m < ps.length)
    (post : ∀ (W' : World), BkM F w W' b tv (.slice (some ⟨eg, 0, none⟩) es.length ec) pv m1 m2 (ws.map kwF) #[tv, .int .i64 tol, .slice (some ⟨eg, 0, none⟩) es.length ec, .map (some m1), .map (some m2), pv] zs nm (cancelAt es ps i).2.2.1 (cancelAt es ps i).2.2.2 → WsR F w.heap.size W' ws → Φ (.returned (.tuple #[.bool (cancelAt es ps i).2.1, .nilIface])) W') :
    Code.wp Tryz.prog (cancelR 13) (bodyPost Tryz.prog Tryz.f13 Φ) ⟨#[.pointer (some ⟨b, 0, none⟩), u1, u2, u3, u4, u5, u6, u7, u8, u9, .pointer (some ⟨eg, i * 31, none⟩), u11, u12, u13, u14, u15, u16, u17, u18, u19, u20, u21, u22, u23, u24, u25, u26, u27, u28, u29, u30, u31, u32, u33, u34, u35, u36, u37, u38, u39, u40, u41, u42, u43, u44, u45, u46, u47, u48, u49, u50, u51, u52, u53, u54, u55, u56, u57, u58, u59, u60, u61, u62, u63, u64, u65, u66, u67, u68, u69, u70, u71, u72, u73, u74, u75, u76, u77, u78, u79, u80, u81, u82, u83, u84, u85, u86, u87, u88, u89, u90, u91, u92, u93, u94, u95, u96, u97, u98, u99, u100, u101, u102, u103, u104, u105, u106, u107, u108, u109, u110, u111, u112, u113, u114, u115, u116, u117, u118, u119, u120, u121, u122, u123, u124, u125, u126, u127, u128, u129, u130], []⟩ W := by
  obtain ⟨PA, pc, hpv⟩ := ow_slice HM.rP
  subst hpv
  obtain ⟨pg, rfl⟩ := own_addr HM.rP (by omega)
  have hcan : cancelAt es ps i = (let es1 := es.set i { es.getD i ent0 with asked := true }
      if (es1.getD (ps.getD m pr0).d ent0).asked && (es1.getD (ps.getD m pr0).r ent0).asked then
        (0, true, (es1.set (ps.getD m pr0).d { es1.getD (ps.getD m pr0).d ent0 with gone := true }).set (ps.getD m pr0).r { (es1.set (ps.getD m pr0).d { es1.getD (ps.getD m pr0).d ent0 with gone := true }).getD (ps.getD m pr0).r ent0 with gone := true }, ps.set m { ps.getD m pr0 with gone := true })
      else (0, false, es1, ps)) := by
    unfold cancelAt
    rw [if_neg (by rw [hg]; decide), if_neg (by rw [hm]; omega), hm, Int.toNat_natCast]
  have hqm : ps.getD m pr0 ∈ ps := by rw [List.getD_eq_getElem?_getD, List.getElem?_eq_getElem hmp]; exact List.getElem_mem hmp
  obtain ⟨hqd, hqr, _⟩ := HS.prs _ hqm
  have HQD := Lib.hid hqd
  have HQR := Lib.hid hqr
  have HPO := Lib.hid post
  have HCA := Lib.hid hcan
  have HM1 := Lib.hid HM
  have HR1 := Lib.hid HR
  have HI := Lib.hid hi
  have HMP := Lib.hid hmp
  have HMM := Lib.hid hm
  clear HM HR HS hi hg hm hmp post hcan hqm hqd hqr
  have hlen : (es.set i { es.getD i ent0 with asked := true }).length = es.length := by simp
  have HL := Lib.hid hlen
  have hpair : ((es.set i { es.getD i ent0 with asked := true }).getD i ent0).pair = (m : Int) := by rw [getD_set_eq HI.out]; exact HMM.out
  obtain ⟨e1, hE1⟩ : ∃ e1, e1 = es.set i { es.getD i ent0 with asked := true } := ⟨_, rfl⟩
  rw [← hE1] at HM1 HCA HL hpair
  have HI1 : Hid (i < e1.length) := Lib.hid (by rw [HL.out]; exact HI.out)
  clear hlen hE1 HMM
  conv => arg 2; whnf
  dsimp only
  have c5 : W.cell? ⟨b, 5, none⟩ = some (.slice (some ⟨pg, 0, none⟩) ps.length pc) := cell_of_row W b 5 _ _ _ HM1.out.book
  have c28 : W.cell? ⟨eg, i * 31 + 28, none⟩ = some (.int .i64 (m : Int)) := by
    rw [(entCell_facts HM1.out HL.out (k := 28) HI1.out (by decide)).1]
    show some (Value.int .i64 (e1.getD i ent0).pair) = _
    rw [hpair]
  have hmI : (m : Int) < (ps.length : Int) := by have := HMP.out; omega
  have hmI0 : (0 : Int) ≤ (m : Int) := by omega
  clear hpair
  go_upto_region 14 with (go_quiet (fail))
  have HM2 := Lib.hid (HM1.out.grow (bl_drewN (bl_refl W) nq))
  have HR2 := Lib.hid (HR1.out.grow (bl_drewN (bl_refl W) nq))
  clear HM1 HR1 c5 c28 hmI hmI0
  generalize W.drewN nq = W2 at HM2 HR2 ⊢
  have c2 : W2.cell? ⟨b, 2, none⟩ = some (.slice (some ⟨eg, 0, none⟩) es.length ec) := cell_of_row W2 b 2 _ _ _ HM2.out.book
  have q0 : W2.cell? ⟨pg, m * 4, none⟩ = some (.int .i64 ((ps.getD m pr0).d : Int)) := (prCell_facts HM2.out rfl (k := 0) HMP.out (by decide)).1
  have q1 : W2.cell? ⟨pg, m * 4 + 1, none⟩ = some (.int .i64 ((ps.getD m pr0).r : Int)) := (prCell_facts HM2.out rfl (k := 1) HMP.out (by decide)).1
  have hdI : ((ps.getD m pr0).d : Int) < (es.length : Int) := by have := HQD.out; omega
  have hrI : ((ps.getD m pr0).r : Int) < (es.length : Int) := by have := HQR.out; omega
  obtain ⟨q, hQ⟩ : ∃ q, q = ps.getD m pr0 := ⟨_, rfl⟩
  rw [← hQ] at q0 q1 hdI hrI HQD HQR HCA
  have HQQ := Lib.hid hQ
  clear hQ
  obtain ⟨d, hd⟩ : ∃ d, d = q.d := ⟨_, rfl⟩
  obtain ⟨r, hr⟩ : ∃ r, r = q.r := ⟨_, rfl⟩
  rw [← hd] at q0 hdI HQD HCA
  rw [← hr] at q1 hrI HQR HCA
  clear hd hr
  go_upto_region 15 with (go_quiet (fail))
  have HM3 := Lib.hid (HM2.out.grow (bl_drewN (bl_refl W2) nq))
  have HR3 := Lib.hid (HR2.out.grow (bl_drewN (bl_refl W2) nq))
  clear HM2 HR2 c2 q0 q1 hdI hrI
  generalize W2.drewN nq = W3 at HM3 HR3 ⊢
  have HD1 : Hid (d < e1.length) := Lib.hid (by rw [HL.out]; exact HQD.out)
  have HR1 : Hid (r < e1.length) := Lib.hid (by rw [HL.out]; exact HQR.out)
  have a0 : W3.cell? ⟨eg, d * 31 + 29, none⟩ = some (.bool (e1.getD d ent0).asked) := (entCell_facts HM3.out HL.out (k := 29) HD1.out (by decide)).1
  have a1 : W3.cell? ⟨eg, r * 31 + 29, none⟩ = some (.bool (e1.getD r ent0).asked) := (entCell_facts HM3.out HL.out (k := 29) HR1.out (by decide)).1
  obtain ⟨kd, hkd⟩ : ∃ k, k = (e1.getD d ent0).asked := ⟨_, rfl⟩
  obtain ⟨kr, hkr⟩ : ∃ k, k = (e1.getD r ent0).asked := ⟨_, rfl⟩
  rw [← hkd] at a0
  rw [← hkr] at a1
  have HKD := Lib.hid hkd
  have HKR := Lib.hid hkr
  clear hkd hkr
  cases kd with
  | false =>
    have HCA2 : Hid (cancelAt es ps i = (0, false, e1, ps)) := Lib.hid (by rw [HCA.out]; show (if (e1.getD d ent0).asked && (e1.getD r ent0).asked then _ else _) = _; rw [← HKD.out]; rfl)
    have HP2 := HPO.out W3
    rw [HCA2.out] at HP2
    have HEND := Lib.hid (HP2 HM3.out HR3.out)
    clear HP2
    go_wp2
    exact HEND.out
  | true =>
    cases kr with
    | false =>
      have HCA2 : Hid (cancelAt es ps i = (0, false, e1, ps)) := Lib.hid (by rw [HCA.out]; show (if (e1.getD d ent0).asked && (e1.getD r ent0).asked then _ else _) = _; rw [← HKD.out, ← HKR.out]; rfl)
      have HP2 := HPO.out W3
      rw [HCA2.out] at HP2
      have HEND := Lib.hid (HP2 HM3.out HR3.out)
      clear HP2
      go_wp2
      exact HEND.out
    | true =>
      have HCA2 : Hid (cancelAt es ps i = (0, true, (e1.set d { e1.getD d ent0 with gone := true }).set r { (e1.set d { e1.getD d ent0 with gone := true }).getD r ent0 with gone := true }, ps.set m { q with gone := true })) := Lib.hid (by rw [HCA.out]; show (if (e1.getD d ent0).asked && (e1.getD r ent0).asked then _ else _) = _; rw [← HKD.out, ← HKR.out]; rfl)
      go_upto_region 17 with fail
      obtain ⟨hm4, hg4⟩ := HM3.out.prCell rfl HMP.out (k := 3) (by decide) (.bool true) { q with gone := true } (by rw [← HQQ.out]; exact prC_gone q true)
      have HM4 := Lib.hid hm4
      have HR4 := Lib.hid (HR3.out.row HM3.out.rP (by decide) hg4)
      have S4 := Lib.hid (store_bool (W := W3) (ad := ⟨pg, m * 4 + 3, none⟩) true (prCell_facts HM3.out rfl (k := 3) HMP.out (by decide)).1 (prCell_facts HM3.out rfl (k := 3) HMP.out (by decide)).2)
      clear hm4 hg4 HM3 HR3 a0 a1
      generalize W3.setCell ⟨pg, m * 4 + 3, none⟩ (.bool true) = W4 at HM4 HR4 S4
      obtain ⟨hm5, hg5⟩ := HM4.out.entCell HL.out HD1.out (k := 30) (by decide) (.bool true) { e1.getD d ent0 with gone := true } (entC_gone _ _) rfl rfl
      have HM5 := Lib.hid hm5
      have HR5 := Lib.hid (HR4.out.row HM4.out.rE (by decide) hg5)
      have S5 := Lib.hid (store_bool (W := W4) (ad := ⟨eg, d * 31 + 30, none⟩) true (entCell_facts HM4.out HL.out (k := 30) HD1.out (by decide)).1 (entCell_facts HM4.out HL.out (k := 30) HD1.out (by decide)).2)
      clear hm5 hg5 HM4 HR4
      generalize W4.setCell ⟨eg, d * 31 + 30, none⟩ (.bool true) = W5 at HM5 HR5 S5
      have hL5 : (e1.set d { e1.getD d ent0 with gone := true }).length = es.length := by simp [HL.out]
      have hR5 : r < (e1.set d { e1.getD d ent0 with gone := true }).length := by rw [hL5]; exact HQR.out
      obtain ⟨hm6, hg6⟩ := HM5.out.entCell hL5 hR5 (k := 30) (by decide) (.bool true) { (e1.set d { e1.getD d ent0 with gone := true }).getD r ent0 with gone := true } (entC_gone _ _) rfl rfl
      have HM6 := Lib.hid hm6
      have HR6 := Lib.hid (HR5.out.row HM5.out.rE (by decide) hg6)
      have S6 := Lib.hid (store_bool (W := W5) (ad := ⟨eg, r * 31 + 30, none⟩) true (entCell_facts HM5.out hL5 (k := 30) hR5 (by decide)).1 (entCell_facts HM5.out hL5 (k := 30) hR5 (by decide)).2)
      clear hm6 hg6 HM5 HR5 hL5 hR5
      generalize W5.setCell ⟨eg, r * 31 + 30, none⟩ (.bool true) = W6 at HM6 HR6 S6
      have HP2 := HPO.out W6
      rw [HCA2.out] at HP2
      have HEND := Lib.hid (HP2 HM6.out HR6.out)
      clear HP2 HM6 HR6
      go_wp2_with (first | (refine wpList_store_plain rfl rfl 4 (.tmp 126) (.const (.bool true)) rfl ⟨pg, m * 4 + 3, none⟩ (.bool true) rfl rfl S4.out ?_) | (refine wpList_store_plain rfl rfl 4 (.tmp 128) (.const (.bool true)) rfl ⟨eg, d * 31 + 30, none⟩ (.bool true) rfl rfl S5.out ?_) | (refine wpList_store_plain rfl rfl 4 (.tmp 130) (.const (.bool true)) rfl ⟨eg, r * 31 + 30, none⟩ (.bool true) rfl rfl S6.out ?_))
      exact HEND.out
end Go.Proofs.YtphabkaiheplpaaGreatDoor
