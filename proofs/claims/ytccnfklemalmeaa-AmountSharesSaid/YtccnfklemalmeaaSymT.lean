/- The ends of slices' symMerge, each by itself: the rotation, the first merge, the second merge. -/
import Derived.Test.YtccnfklemalmeaaSymA
set_option linter.unusedVariables false
set_option linter.unusedSimpArgs false
set_option maxRecDepth 100000
namespace Go.Proofs.Ytccnfklemalmeaa
open Go.RowKit Go.Sort Go.Lib Go.Shelf

/-- What symMerge is told and what it leaves behind. -/
def MergeC (enc : Nat → Value) (key : Nat → Int) (g : Nat) (cb : Array Value) (w0 : World) (blk off cap : Nat) (d0 : Array Nat) (a m b : Nat) (d : Array Nat) (w : World) : Prop :=
  d.size = d0.size → SW enc w0 blk off d w → a < m → m < b → b ≤ d.size → SegS key a m d → SegS key m b d → CrossS a m b d →
    Calls Try.prog 23 #[.slice (some ⟨blk, off, none⟩) d.size cap, .int .i64 a, .int .i64 m, .int .i64 b, .func (.func g) #[] cb] w fun e w' => e = .returned (.tuple #[]) ∧ ∃ d', SW enc w0 blk off d' w' ∧ Merged key a b d d'

/-- The region that a piece of code begins with. -/
def headR : Code → Option Nat
  | .region k _ _ => some k
  | .seq a _ => headR a
  | _ => none
/-- The code from a region on, to the end of its sequence. -/
def fromR (n : Nat) : Code → Option Code
  | .seq a b => if headR a = some n then some (.seq a b) else match fromR n a with
    | some c => some c
    | none => fromR n b
  | .block _ c => fromR n c
  | .scope c => fromR n c
  | .loop c => fromR n c
  | .cond _ a b => match fromR n a with
    | some c => some c
    | none => fromR n b
  | _ => none
noncomputable def tail39 : Code := ((Try.f23.body.bind (fromR 39)).getD .skip)
noncomputable def tail41 : Code := ((Try.f23.body.bind (fromR 41)).getD .skip)
noncomputable def tail43 : Code := ((Try.f23.body.bind (fromR 43)).getD .skip)

set_option maxHeartbeats 8000000 in
set_option maxRecDepth 1000000 in
theorem sym_second {enc : Nat → Value} {key : Nat → Int} {g : Nat} {cb : Array Value} {w0 : World} {blk off cap : Nat} {d0 : Array Nat} {a m b mid i e : Nat} {d : Array Nat} {w : World} (u5 u6 u7 u8 u9 u10 u11 u12 u13 u14 u15 u16 u17 u19 u21 u22 u23 u25 u26 u27 u28 u29 u30 u31 u32 u33 u34 u35 u36 u37 u38 u39 u40 u41 u42 u43 u44 u45 u46 u47 u48 u49 u50 u51 u52 u53 u54 u55 u56 u57 u58 u59 u60 u61 u62 u63 u64 u65 u66 u67 u68 u69 u70 u71 u72 u73 u74 u75 u76 u77 u78 u79 u80 u81 u82 u83 u84 u85 u86 u87 u88 u89 u90 u91 u92 u93 u94 u95 u96 u97 u98 u99 u100 u101 u102 u103 u104 u105 u106 u107 u108 u109 u110 u111 u112 u113 u114 u115 u116 u117 u118 u119 u120 u121 u122 u123 u124 u125 u126 u127 u128 u129 u130 u131 u132 u133 u134 u135 u136 u137 u138 u139 u140 u141 u142 u143 u144 u145 u146 u147 u148 u149 u150 u151 u152 u153 u154 u155 u156 u157 u158 u159 u160 u161 u162 u163 u164 u165 u166 u167 u168 u169 u170 u171 u172 u173 u174 u175 u176 u177 u178 u179 u180 u181 u182 u183 u184 u185 u186 u187 u188 u189 u190 u191 u192 u193 u194 u195 u196 u197 u198 u199 u200 u201 u202 u203 u204 u205 u206 u207 u208 u209 u210 u211 u212 u213 u214 u215 u216 u217 u218 u219 : Value) {Φ : Ending → World → Prop}
    (hs : d.size = d0.size) (S : SW enc w0 blk off d w) (hsz : d.size < 2305843009213693952) (hb : b ≤ d.size) (hme : mid ≤ e) (heb : e ≤ b) (h1 : SegS key mid e d) (h2 : SegS key e b d) (hc : CrossS mid e b d)
    (ih : ∀ a' m' b' d' w', b' - a' < b - a → MergeC enc key g cb w0 blk off cap d0 a' m' b' d' w') (ham : a < mid)
    (post : ∀ d' w', SW enc w0 blk off d' w' → Merged key mid b d d' → Φ (.returned (.tuple #[])) w') :
    Code.wp Try.prog tail43 (bodyPost Try.prog Try.f23 Φ) ⟨#[.slice (some ⟨blk, off, none⟩) d.size cap, .int .i64 a, .int .i64 m, .int .i64 b, .func (.func g) #[] cb, u5, u6, u7, u8, u9, u10, u11, u12, u13, u14, u15, u16, u17, .int .i64 mid, u19, .int .i64 i, u21, u22, u23, .int .i64 e, u25, u26, u27, u28, u29, u30, u31, u32, u33, u34, u35, u36, u37, u38, u39, u40, u41, u42, u43, u44, u45, u46, u47, u48, u49, u50, u51, u52, u53, u54, u55, u56, u57, u58, u59, u60, u61, u62, u63, u64, u65, u66, u67, u68, u69, u70, u71, u72, u73, u74, u75, u76, u77, u78, u79, u80, u81, u82, u83, u84, u85, u86, u87, u88, u89, u90, u91, u92, u93, u94, u95, u96, u97, u98, u99, u100, u101, u102, u103, u104, u105, u106, u107, u108, u109, u110, u111, u112, u113, u114, u115, u116, u117, u118, u119, u120, u121, u122, u123, u124, u125, u126, u127, u128, u129, u130, u131, u132, u133, u134, u135, u136, u137, u138, u139, u140, u141, u142, u143, u144, u145, u146, u147, u148, u149, u150, u151, u152, u153, u154, u155, u156, u157, u158, u159, u160, u161, u162, u163, u164, u165, u166, u167, u168, u169, u170, u171, u172, u173, u174, u175, u176, u177, u178, u179, u180, u181, u182, u183, u184, u185, u186, u187, u188, u189, u190, u191, u192, u193, u194, u195, u196, u197, u198, u199, u200, u201, u202, u203, u204, u205, u206, u207, u208, u209, u210, u211, u212, u213, u214, u215, u216, u217, u218, u219], []⟩ w := by
  have S0 : Aside (SW enc w0 blk off d w) := S
  have HS := Lib.hid hs
  have IH := Lib.hid ih
  have HH := Lib.hid (And.intro h1 (And.intro h2 hc))
  have HP := Lib.hid post
  clear S hs ih h1 h2 hc post
  conv => arg 2; whnf
  dsimp only
  go_upto_region 43 with fail
  go_cut [213] from 25 (fun v wx => v = .bool (decide (mid < e ∧ e < b)) ∧ wx = w)
  case first =>
    by_cases c1 : mid < e
    · have c1z : (mid : Int) < (e : Int) := by omega
      by_cases c2 : e < b
      · have c2z : (e : Int) < (b : Int) := by omega
        have dd := Lib.hid (decide_eq_true (show mid < e ∧ e < b from ⟨c1, c2⟩))
        go_wp2
        go_meet
        exact ⟨by rw [dd.out], rfl⟩
      · have c2z : ¬ (e : Int) < (b : Int) := by omega
        have dd := Lib.hid (decide_eq_false (show ¬ (mid < e ∧ e < b) from fun h => c2 h.2))
        go_wp2
        go_meet
        exact ⟨by rw [dd.out], rfl⟩
    · have c1z : ¬ (mid : Int) < (e : Int) := by omega
      have dd := Lib.hid (decide_eq_false (show ¬ (mid < e ∧ e < b) from fun h => c1 h.1))
      go_wp2
      go_meet
      exact ⟨by rw [dd.out], rfl⟩
  obtain ⟨rfl, rfl⟩ := hcut
  by_cases c1 : mid < e ∧ e < b
  · have RT := Lib.hid (IH.out mid e b d wc (by omega) HS.out S0.out c1.1 c1.2 hb HH.out.1 HH.out.2.1 HH.out.2.2)
    rw [decide_eq_true c1]
    clear c1
    go_wp2_with (first | (go_at_call 23; with_reducible refine (RT.out).mono ?_; rintro e w1 ⟨rfl, d', S4, h2⟩))
    go_end0
    exact HP.out d' _ S4 h2
  · have RN := Lib.hid (merged_none HH.out.1 HH.out.2.1 c1 hme heb)
    rw [decide_eq_false c1]
    clear c1
    go_wp2
    go_end0
    exact HP.out d _ S0.out RN.out

set_option maxHeartbeats 8000000 in
set_option maxRecDepth 1000000 in
theorem sym_first {enc : Nat → Value} {key : Nat → Int} {g : Nat} {cb : Array Value} {w0 : World} {blk off cap : Nat} {d0 : Array Nat} {a m b mid i e : Nat} {d : Array Nat} {w : World} (u5 u6 u7 u8 u9 u10 u11 u12 u13 u14 u15 u16 u17 u19 u21 u22 u23 u25 u26 u27 u28 u29 u30 u31 u32 u33 u34 u35 u36 u37 u38 u39 u40 u41 u42 u43 u44 u45 u46 u47 u48 u49 u50 u51 u52 u53 u54 u55 u56 u57 u58 u59 u60 u61 u62 u63 u64 u65 u66 u67 u68 u69 u70 u71 u72 u73 u74 u75 u76 u77 u78 u79 u80 u81 u82 u83 u84 u85 u86 u87 u88 u89 u90 u91 u92 u93 u94 u95 u96 u97 u98 u99 u100 u101 u102 u103 u104 u105 u106 u107 u108 u109 u110 u111 u112 u113 u114 u115 u116 u117 u118 u119 u120 u121 u122 u123 u124 u125 u126 u127 u128 u129 u130 u131 u132 u133 u134 u135 u136 u137 u138 u139 u140 u141 u142 u143 u144 u145 u146 u147 u148 u149 u150 u151 u152 u153 u154 u155 u156 u157 u158 u159 u160 u161 u162 u163 u164 u165 u166 u167 u168 u169 u170 u171 u172 u173 u174 u175 u176 u177 u178 u179 u180 u181 u182 u183 u184 u185 u186 u187 u188 u189 u190 u191 u192 u193 u194 u195 u196 u197 u198 u199 u200 u201 u202 u203 u204 u205 u206 u207 u208 u209 u210 u211 u212 u213 u214 u215 u216 u217 u218 u219 : Value) {Φ : Ending → World → Prop}
    (hs : d.size = d0.size) (S : SW enc w0 blk off d w) (hsz : d.size < 2305843009213693952) (hb : b ≤ d.size) (hme : mid ≤ e) (heb : e ≤ b) (hai : a ≤ i) (him : i ≤ mid) (hv : Halves key a i mid e b d)
    (ih : ∀ a' m' b' d' w', b' - a' < b - a → MergeC enc key g cb w0 blk off cap d0 a' m' b' d' w') (ham : a < mid) (hmb : mid < b)
    (post : ∀ d2 d' w', SW enc w0 blk off d' w' → Merged key a mid d d2 → Merged key mid b d2 d' → Φ (.returned (.tuple #[])) w') :
    Code.wp Try.prog tail41 (bodyPost Try.prog Try.f23 Φ) ⟨#[.slice (some ⟨blk, off, none⟩) d.size cap, .int .i64 a, .int .i64 m, .int .i64 b, .func (.func g) #[] cb, u5, u6, u7, u8, u9, u10, u11, u12, u13, u14, u15, u16, u17, .int .i64 mid, u19, .int .i64 i, u21, u22, u23, .int .i64 e, u25, u26, u27, u28, u29, u30, u31, u32, u33, u34, u35, u36, u37, u38, u39, u40, u41, u42, u43, u44, u45, u46, u47, u48, u49, u50, u51, u52, u53, u54, u55, u56, u57, u58, u59, u60, u61, u62, u63, u64, u65, u66, u67, u68, u69, u70, u71, u72, u73, u74, u75, u76, u77, u78, u79, u80, u81, u82, u83, u84, u85, u86, u87, u88, u89, u90, u91, u92, u93, u94, u95, u96, u97, u98, u99, u100, u101, u102, u103, u104, u105, u106, u107, u108, u109, u110, u111, u112, u113, u114, u115, u116, u117, u118, u119, u120, u121, u122, u123, u124, u125, u126, u127, u128, u129, u130, u131, u132, u133, u134, u135, u136, u137, u138, u139, u140, u141, u142, u143, u144, u145, u146, u147, u148, u149, u150, u151, u152, u153, u154, u155, u156, u157, u158, u159, u160, u161, u162, u163, u164, u165, u166, u167, u168, u169, u170, u171, u172, u173, u174, u175, u176, u177, u178, u179, u180, u181, u182, u183, u184, u185, u186, u187, u188, u189, u190, u191, u192, u193, u194, u195, u196, u197, u198, u199, u200, u201, u202, u203, u204, u205, u206, u207, u208, u209, u210, u211, u212, u213, u214, u215, u216, u217, u218, u219], []⟩ w := by
  have S0 : Aside (SW enc w0 blk off d w) := S
  have HS := Lib.hid hs
  have IH := Lib.hid ih
  have HH := Lib.hid hv
  have HP := Lib.hid post
  clear S hs ih hv post
  conv => arg 2; whnf
  dsimp only
  go_upto_region 41 with fail
  rename_i KA hA KB hB
  go_cut [199] from 25 (fun v wx => v = .bool (decide (a < i ∧ i < mid)) ∧ wx = w)
  case first =>
    by_cases c1 : a < i
    · have c1z : (a : Int) < (i : Int) := by omega
      by_cases c2 : i < mid
      · have c2z : (i : Int) < (mid : Int) := by omega
        have dd := Lib.hid (decide_eq_true (show a < i ∧ i < mid from ⟨c1, c2⟩))
        go_wp2
        go_meet
        exact ⟨by rw [dd.out], rfl⟩
      · have c2z : ¬ (i : Int) < (mid : Int) := by omega
        have dd := Lib.hid (decide_eq_false (show ¬ (a < i ∧ i < mid) from fun h => c2 h.2))
        go_wp2
        go_meet
        exact ⟨by rw [dd.out], rfl⟩
    · have c1z : ¬ (a : Int) < (i : Int) := by omega
      have dd := Lib.hid (decide_eq_false (show ¬ (a < i ∧ i < mid) from fun h => c1 h.1))
      go_wp2
      go_meet
      exact ⟨by rw [dd.out], rfl⟩
  obtain ⟨rfl, rfl⟩ := hcut
  go_upto_if 199 with fail
  go_cut [] from 25 (fun wx => ∃ d2, SW enc w0 blk off d2 wx ∧ Merged key a mid d d2)
  case first =>
    by_cases c1 : a < i ∧ i < mid
    · have RT := Lib.hid (IH.out a i mid d wc (by omega) HS.out S0.out c1.1 c1.2 (by omega) HH.out.l1 HH.out.l2 HH.out.lc)
      rw [decide_eq_true c1]
      clear c1
      go_wp2_with (first | (go_at_call 23; with_reducible refine (RT.out).mono ?_; rintro e w1 ⟨rfl, d', S4, h2⟩))
      go_meet
      exact ⟨d', S4, h2⟩
    · have RN := Lib.hid (merged_none HH.out.l1 HH.out.l2 c1 (by omega) (by omega))
      rw [decide_eq_false c1]
      clear c1
      go_wp2
      go_meet
      exact ⟨d, S0.out, RN.out⟩
  obtain ⟨d2, S4, M1⟩ := hcut
  refine hA _ _ ?_
  have z : d2.size = d.size := M1.1.1
  have HR := HH.out.right M1 hme heb
  rw [← z]
  exact sym_second _ _ _ _ _ _ _ _ _ _ _ _ _ _ _ _ _ _ _ _ _ _ _ _ _ _ _ _ _ _ _ _ _ _ _ _ _ _ _ _ _ _ _ _ _ _ _ _ _ _ _ _ _ _ _ _ _ _ _ _ _ _ _ _ _ _ _ _ _ _ _ _ _ _ _ _ _ _ _ _ _ _ _ _ _ _ _ _ _ _ _ _ _ _ _ _ _ _ _ _ _ _ _ _ _ _ _ _ _ _ _ _ _ _ _ _ _ _ _ _ _ _ _ _ _ _ _ _ _ _ _ _ _ _ _ _ _ _ _ _ _ _ _ _ _ _ _ _ _ _ _ _ _ _ _ _ _ _ _ _ _ _ _ _ _ _ _ _ _ _ _ _ _ _ _ _ _ _ _ _ _ _ _ _ _ _ _ _ _ _ _ _ _ _ _ _ _ _ _ _ _ _ _ _ _ _ _ _ _ _ _ _ (z.trans HS.out) S4 (by omega) (by omega) hme heb HR.1 HR.2.1 HR.2.2 IH.out ham fun d' w' s m2 => HP.out d2 d' w' s M1 m2

set_option maxHeartbeats 8000000 in
set_option maxRecDepth 1000000 in
theorem sym_rot {enc : Nat → Value} {key : Nat → Int} {g : Nat} {cb : Array Value} {w0 : World} {blk off cap : Nat} {d0 : Array Nat} {a m b mid i e : Nat} {d : Array Nat} {w : World} (u5 u6 u7 u8 u9 u10 u11 u12 u13 u14 u15 u16 u17 u19 u21 u22 u23 u25 u26 u27 u28 u29 u30 u31 u32 u33 u34 u35 u36 u37 u38 u39 u40 u41 u42 u43 u44 u45 u46 u47 u48 u49 u50 u51 u52 u53 u54 u55 u56 u57 u58 u59 u60 u61 u62 u63 u64 u65 u66 u67 u68 u69 u70 u71 u72 u73 u74 u75 u76 u77 u78 u79 u80 u81 u82 u83 u84 u85 u86 u87 u88 u89 u90 u91 u92 u93 u94 u95 u96 u97 u98 u99 u100 u101 u102 u103 u104 u105 u106 u107 u108 u109 u110 u111 u112 u113 u114 u115 u116 u117 u118 u119 u120 u121 u122 u123 u124 u125 u126 u127 u128 u129 u130 u131 u132 u133 u134 u135 u136 u137 u138 u139 u140 u141 u142 u143 u144 u145 u146 u147 u148 u149 u150 u151 u152 u153 u154 u155 u156 u157 u158 u159 u160 u161 u162 u163 u164 u165 u166 u167 u168 u169 u170 u171 u172 u173 u174 u175 u176 u177 u178 u179 u180 u181 u182 u183 u184 u185 u186 u187 u188 u189 u190 u191 u192 u193 u194 u195 u196 u197 u198 u199 u200 u201 u202 u203 u204 u205 u206 u207 u208 u209 u210 u211 u212 u213 u214 u215 u216 u217 u218 u219 : Value) {Φ : Ending → World → Prop}
    (hs : d.size = d0.size) (S : SW enc w0 blk off d w) (hsz : d.size < 2305843009213693952) (hb : b ≤ d.size) (R : Row1 enc w0 blk off d0) (ham : a < m) (hmb : m < b) (hme : m ≤ e) (heb : e ≤ b) (hai : a ≤ i) (him : i ≤ mid) (him2 : i ≤ m) (hem : mid ≤ e)
    (hv : ∀ d1, RotIn i m e d d1 → Halves key a i mid e b d1) (ih : ∀ a' m' b' d' w', b' - a' < b - a → MergeC enc key g cb w0 blk off cap d0 a' m' b' d' w') (ham2 : a < mid) (hmb2 : mid < b)
    (post : ∀ d1 d2 d' w', SW enc w0 blk off d' w' → RotIn i m e d d1 → Merged key a mid d1 d2 → Merged key mid b d2 d' → Φ (.returned (.tuple #[])) w') :
    Code.wp Try.prog tail39 (bodyPost Try.prog Try.f23 Φ) ⟨#[.slice (some ⟨blk, off, none⟩) d.size cap, .int .i64 a, .int .i64 m, .int .i64 b, .func (.func g) #[] cb, u5, u6, u7, u8, u9, u10, u11, u12, u13, u14, u15, u16, u17, .int .i64 mid, u19, .int .i64 i, u21, u22, u23, .int .i64 e, u25, u26, u27, u28, u29, u30, u31, u32, u33, u34, u35, u36, u37, u38, u39, u40, u41, u42, u43, u44, u45, u46, u47, u48, u49, u50, u51, u52, u53, u54, u55, u56, u57, u58, u59, u60, u61, u62, u63, u64, u65, u66, u67, u68, u69, u70, u71, u72, u73, u74, u75, u76, u77, u78, u79, u80, u81, u82, u83, u84, u85, u86, u87, u88, u89, u90, u91, u92, u93, u94, u95, u96, u97, u98, u99, u100, u101, u102, u103, u104, u105, u106, u107, u108, u109, u110, u111, u112, u113, u114, u115, u116, u117, u118, u119, u120, u121, u122, u123, u124, u125, u126, u127, u128, u129, u130, u131, u132, u133, u134, u135, u136, u137, u138, u139, u140, u141, u142, u143, u144, u145, u146, u147, u148, u149, u150, u151, u152, u153, u154, u155, u156, u157, u158, u159, u160, u161, u162, u163, u164, u165, u166, u167, u168, u169, u170, u171, u172, u173, u174, u175, u176, u177, u178, u179, u180, u181, u182, u183, u184, u185, u186, u187, u188, u189, u190, u191, u192, u193, u194, u195, u196, u197, u198, u199, u200, u201, u202, u203, u204, u205, u206, u207, u208, u209, u210, u211, u212, u213, u214, u215, u216, u217, u218, u219], []⟩ w := by
  have S0 : Aside (SW enc w0 blk off d w) := S
  have HS := Lib.hid hs
  have IH := Lib.hid ih
  have HH := Lib.hid hv
  have HP := Lib.hid post
  clear S hs ih hv post
  conv => arg 2; whnf
  dsimp only
  go_upto_region 39 with fail
  rename_i KA hA KB hB
  go_cut [185] from 25 (fun v wx => v = .bool (decide (i < m ∧ m < e)) ∧ wx = w)
  case first =>
    by_cases c1 : i < m
    · have c1z : (i : Int) < (m : Int) := by omega
      by_cases c2 : m < e
      · have c2z : (m : Int) < (e : Int) := by omega
        have dd := Lib.hid (decide_eq_true (show i < m ∧ m < e from ⟨c1, c2⟩))
        go_wp2
        go_meet
        exact ⟨by rw [dd.out], rfl⟩
      · have c2z : ¬ (m : Int) < (e : Int) := by omega
        have dd := Lib.hid (decide_eq_false (show ¬ (i < m ∧ m < e) from fun h => c2 h.2))
        go_wp2
        go_meet
        exact ⟨by rw [dd.out], rfl⟩
    · have c1z : ¬ (i : Int) < (m : Int) := by omega
      have dd := Lib.hid (decide_eq_false (show ¬ (i < m ∧ m < e) from fun h => c1 h.1))
      go_wp2
      go_meet
      exact ⟨by rw [dd.out], rfl⟩
  obtain ⟨rfl, rfl⟩ := hcut
  go_upto_if 185 with fail
  go_cut [] from 25 (fun wx => ∃ d2, SW enc w0 blk off d2 wx ∧ RotIn i m e d d2)
  case first =>
    by_cases c1 : i < m ∧ m < e
    · have RT := Lib.hid (rotate_any R cap i m e (.func (.func g) #[] cb) d wc HS.out S0.out c1.1 c1.2 (by omega) (by omega))
      rw [decide_eq_true c1]
      clear c1
      go_wp2_with (first | (go_at_call 25; with_reducible refine (RT.out).mono ?_; rintro e w1 ⟨rfl, d', S4, h2⟩))
      go_meet
      exact ⟨d', S4, h2⟩
    · have RN := Lib.hid (rot_none (a := i) (m := m) (b := e) (d := d) him2 hme (by omega))
      rw [decide_eq_false c1]
      clear c1
      go_wp2
      go_meet
      exact ⟨d, S0.out, RN.out⟩
  obtain ⟨d2, S4, M1⟩ := hcut
  refine hA _ _ ?_
  have z : d2.size = d.size := M1.1.1
  rw [← z]
  exact sym_first _ _ _ _ _ _ _ _ _ _ _ _ _ _ _ _ _ _ _ _ _ _ _ _ _ _ _ _ _ _ _ _ _ _ _ _ _ _ _ _ _ _ _ _ _ _ _ _ _ _ _ _ _ _ _ _ _ _ _ _ _ _ _ _ _ _ _ _ _ _ _ _ _ _ _ _ _ _ _ _ _ _ _ _ _ _ _ _ _ _ _ _ _ _ _ _ _ _ _ _ _ _ _ _ _ _ _ _ _ _ _ _ _ _ _ _ _ _ _ _ _ _ _ _ _ _ _ _ _ _ _ _ _ _ _ _ _ _ _ _ _ _ _ _ _ _ _ _ _ _ _ _ _ _ _ _ _ _ _ _ _ _ _ _ _ _ _ _ _ _ _ _ _ _ _ _ _ _ _ _ _ _ _ _ _ _ _ _ _ _ _ _ _ _ _ _ _ _ _ _ _ _ _ _ _ _ _ _ _ _ _ _ (z.trans HS.out) S4 (by omega) (by omega) hem heb hai him (HH.out d2 M1) IH.out ham2 hmb2 fun d2' d' w' s m1 m2 => HP.out d2 d2' d' w' s M1 m1 m2
end Go.Proofs.Ytccnfklemalmeaa
