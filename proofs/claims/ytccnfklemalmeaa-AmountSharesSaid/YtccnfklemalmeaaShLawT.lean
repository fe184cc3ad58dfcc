/- The law of shares, its end: the weights multiplied by one number give the same parts. -/
import Derived.Test.YtccnfklemalmeaaShLaw
import Derived.Test.YtccnfklemalmeaaStable
set_option linter.unusedVariables false
set_option linter.unusedSimpArgs false
set_option maxRecDepth 100000
namespace Go.Proofs.Ytccnfklemalmeaa
open Go.RowKit Go.Lib

theorem FitF.in64 {n : Int} {xs : List Int} (F : FitF n xs) : In64 xs := fun x hx => by
  obtain ⟨k, hk, e⟩ := List.getElem_of_mem hx
  have a := F.w0 k
  have b := F.w1 k
  have c := F.t1
  simp only [List.getD_eq_getElem?_getD, List.getElem?_eq_getElem hk, Option.getD_some, e] at a b
  omega
theorem by_fits {T c : Int} (hc : 1 ≤ c) (hT : T ≤ 9223372036854775807 / c) : c * T ≤ 9223372036854775807 := by
  have a : c * T ≤ c * (9223372036854775807 / c) := Int.mul_le_mul_of_nonneg_left hT (by omega)
  have b := Int.mul_ediv_add_emod 9223372036854775807 c
  have d := Int.emod_nonneg 9223372036854775807 (show c ≠ 0 by omega)
  omega
noncomputable def tail21 : Code := ((Try.f3.body.bind (fromR 21)).getD .skip)

set_option maxHeartbeats 8000000 in
set_option maxRecDepth 1000000 in
theorem law_tail {A0 : Option Addr} {l c bp : Nat} {xs ps : List Int} {n by_ T : Int} {w : World} (u3 u4 u5 u6 u8 u10 u11 u12 u13 u14 u15 u16 u17 u18 u19 u20 u21 u22 u23 u24 u25 u26 u27 u28 u29 u30 u31 u32 u33 u34 u35 u36 u37 u38 u39 u40 u41 u42 u43 u44 u45 u46 u47 u48 u49 u50 u51 u52 u53 u54 u55 u56 u57 u58 u59 u60 u61 u62 u63 u64 u65 u66 u67 u68 u69 u70 u71 u72 u73 u74 u75 u76 u77 u78 u79 u80 u81 u82 u83 u84 u85 u86 u87 u88 u89 u90 u91 u92 u93 u94 u95 u96 u97 u98 u99 u100 u101 u102 u103 u104 u105 u106 u107 u108 u109 u110 u111 u112 u113 u114 u115 u116 u117 u118 u119 u120 u121 u122 u123 u124 u125 u126 u127 u128 u129 u130 u131 u132 u133 u134 u135 u136 u137 u138 u139 u140 u141 u142 u143 u144 u145 u146 u147 u148 u149 u150 u151 u152 u153 u154 u155 u156 u157 u158 u159 u160 u161 u162 u163 u164 u165 u166 u167 u168 u169 u170 u171 u172 u173 u174 u175 u176 u177 u178 u179 u180 u181 u182 u183 u184 u185 u186 u187 u188 u189 u190 u191 u192 u193 u194 u195 u196 u197 u198 u199 u200 u201 u202 u203 u204 : Value) {Φ : Ending → World → Prop}
    (hn : I64 n) (hby : I64 by_) (F : FitF n xs) (hT : T = theSum xs) (hl : l * 8 ≤ 140737488351232) (hL : xs.length = l) (hr : RdI w .i64 A0 l xs) (hp : RdI w .i64 (some ⟨bp, 0, none⟩) l ps) (hd : Dealt n xs ps)
    (post : ∀ w', Below w.heap.size w w' → Φ (.returned (.bool true)) w') :
    Code.wp Try.prog tail21 (bodyPost Try.prog Try.f3 Φ) ⟨#[.int .i64 n, .slice A0 l c, .int .i64 by_, u3, u4, u5, u6, .int .i64 T, u8, .slice (some ⟨bp, 0, none⟩) l l, u10, u11, u12, u13, u14, u15, u16, u17, u18, u19, u20, u21, u22, u23, u24, u25, u26, u27, u28, u29, u30, u31, u32, u33, u34, u35, u36, u37, u38, u39, u40, u41, u42, u43, u44, u45, u46, u47, u48, u49, u50, u51, u52, u53, u54, u55, u56, u57, u58, u59, u60, u61, u62, u63, u64, u65, u66, u67, u68, u69, u70, u71, u72, u73, u74, u75, u76, u77, u78, u79, u80, u81, u82, u83, u84, u85, u86, u87, u88, u89, u90, u91, u92, u93, u94, u95, u96, u97, u98, u99, u100, u101, u102, u103, u104, u105, u106, u107, u108, u109, u110, u111, u112, u113, u114, u115, u116, u117, u118, u119, u120, u121, u122, u123, u124, u125, u126, u127, u128, u129, u130, u131, u132, u133, u134, u135, u136, u137, u138, u139, u140, u141, u142, u143, u144, u145, u146, u147, u148, u149, u150, u151, u152, u153, u154, u155, u156, u157, u158, u159, u160, u161, u162, u163, u164, u165, u166, u167, u168, u169, u170, u171, u172, u173, u174, u175, u176, u177, u178, u179, u180, u181, u182, u183, u184, u185, u186, u187, u188, u189, u190, u191, u192, u193, u194, u195, u196, u197, u198, u199, u200, u201, u202, u203, u204], []⟩ w := by
  have HR := Lib.hid hr
  have HP := Lib.hid hp
  have HD := Lib.hid hd
  have HN := Lib.hid hn
  have HL := Lib.hid hL
  have HO := Lib.hid post
  have b9 := hby.2
  have hll : l ≤ 9223372036854775807 := by omega
  have l0 : 0 < l := by have := F.l0; omega
  clear hr hp hd hn hL post hby
  conv => arg 2; whnf
  dsimp only
  by_cases b1 : by_ < 1
  · go_wp2
    exact HO.out _ (bl_refl _)
  · have bne : ¬ by_ = 0 := by omega
    obtain ⟨D, hD⟩ : ∃ D, D = 9223372036854775807 / by_ := ⟨_, rfl⟩
    have hD0 : 0 ≤ D := by rw [hD]; exact Int.ediv_nonneg (by omega) (by omega)
    have hD1 : D ≤ 9223372036854775807 := by rw [hD]; exact Int.ediv_le_self _ (by omega)
    have tD : (9223372036854775807 : Int).tdiv by_ = D := by rw [hD]; exact Int.tdiv_eq_ediv_of_nonneg (by omega)
    have wD : IntKind.i64.wrap D = D := by rw [IntKind.wrap_i64]; omega
    have HDD := Lib.hid hD
    have HT := Lib.hid hT
    clear hD hT
    by_cases hTD : D < T
    · go_wp2
      exact HO.out _ (bl_refl _)
    · have bT : by_ * theSum xs ≤ 9223372036854775807 := by
        rw [← HT.out]
        exact by_fits (by omega) (by rw [← HDD.out]; omega)
      have F2 := scale_fit F (show 0 < by_ by omega) bT
      have CP := Lib.hid (copyLongs A0 l c xs w HR.out hl)
      have HB := Lib.hid bT
      have hx0 := Lib.hid F.w0
      have hx1 := Lib.hid F.w1
      clear bT
      go_upto_region 24 with (first | (go_at_call 8; with_reducible refine (CP.out).mono ?_; rintro e w1 ⟨v, rfl, hown, hb⟩))
      obtain ⟨g, cap, rfl, hg⟩ := RowI.of_own hown hb HL.out l0
      have HG := Lib.hid hg
      clear hown hb hg CP
      go_wp2
      go_loopg [18] l (fun gg vi wr => ∃ (k : Nat) (Q : Nat → Int), vi = .int .i64 k ∧ k ≤ l ∧ l - k ≤ gg ∧ Hid (RowI w wr g l Q) ∧ Hid (∀ j, (j < k → Q j = xs.getD j 0 * by_) ∧ (k ≤ j → Q j = xs.getD j 0)))
      case atStart => exact ⟨0, _, rfl, by omega, by omega, HG, (show ∀ j, _ from fun j => ⟨fun h => by omega, fun _ => rfl⟩)⟩
      case round =>
        clear HG
        obtain ⟨k, Q, rfl, hkl, hg2, HG, HQ⟩ := hrel
        by_cases hlt : k < l
        · have hltz : (k : Int) < (l : Int) := by omega
          have ce := HG.out.ce k hlt
          have fr := HG.out.fr k
          rw [(HQ.out k).2 (Nat.le_refl _)] at ce
          have x0 := hx0.out k
          have x1 := hx1.out k
          obtain ⟨x, hx⟩ : ∃ x, x = xs.getD k 0 := ⟨_, rfl⟩
          rw [← hx] at ce x0 x1
          have m0 : 0 ≤ x * by_ := Int.mul_nonneg x0 (by omega)
          have m1 : x * by_ ≤ 9223372036854775807 := by
            have a : x * by_ ≤ theSum xs * by_ := Int.mul_le_mul_of_nonneg_right x1 (by omega)
            rw [Int.mul_comm (theSum xs)] at a
            have := HB.out
            omega
          have wm : IntKind.i64.wrap (x * by_) = x * by_ := by rw [IntKind.wrap_i64]; omega
          have HG2 := Lib.hid (HG.out.set hlt (x * by_))
          have HX := Lib.hid hx
          clear hx m0 m1 x0 x1 HG
          go_upto_region 26 with fail
          clear ce fr
          generalize wr.setCell ⟨g, k, none⟩ (.int .i64 (x * by_)) = w3 at HG2 ⊢
          go_wp2
          go_roundg (l - (k + 1))
          case measure => omega
          case rel =>
            refine ⟨k + 1, _, by go_num, by omega, by omega, HG2, (show ∀ j, _ from fun j => ?_)⟩
            by_cases e : j = k
            · subst e
              rw [upd_same, HX.out]
              exact ⟨fun _ => rfl, fun h => by omega⟩
            · rw [upd_other _ _ e]
              exact ⟨fun h => (HQ.out j).1 (by omega), fun h => (HQ.out j).2 (by omega)⟩
        · have e : l = k := by omega
          subst e
          have hlz : ¬ (l : Int) < (l : Int) := by omega
          have hz : (xs.map (fun x => x * by_)).length = l := by rw [List.length_map]; exact HL.out
          have R2 : RdI wr .i64 (some ⟨g, 0, none⟩) l (xs.map (fun x => x * by_)) := ⟨hz, hll, fun _ => ⟨_, rfl, fun j hj => by
            rw [add_zero, HG.out.ce j hj, (HQ.out j).1 hj, scale_at, Int.mul_comm]⟩⟩
          have SP := split_good (some ⟨g, 0, none⟩) l cap (xs.map (fun x => x * by_)) n wr HN.out R2 hl F2.in64 F2.fits
          have HSP := Lib.hid SP
          clear SP R2 hz
          go_wp2_with (first
            | (go_at_call 5; with_reducible refine (HSP.out).mono ?_; rintro e w2 ⟨bp2, ps2, rfl, hp2, hd2, hb2⟩; have ep := HD.out.scale (show 0 < by_ by omega) hd2; subst ep; have SL := Lib.hid (sameLongs (some ⟨bp2, 0, none⟩) (some ⟨bp, 0, none⟩) l l l ps2 w2 hp2 (HP.out.below (bl_then HG.out.below hb2))); have HB2 := Lib.hid (bl_then HG.out.below hb2); clear hp2 hd2 hb2)
            | (go_at_call 9; with_reducible refine (SL.out).mono ?_; rintro e w4 ⟨rfl, hb4⟩; have HB4 := Lib.hid (bl_then HB2.out hb4); clear hb4))
          exact HO.out _ HB4.out
end Go.Proofs.Ytccnfklemalmeaa
