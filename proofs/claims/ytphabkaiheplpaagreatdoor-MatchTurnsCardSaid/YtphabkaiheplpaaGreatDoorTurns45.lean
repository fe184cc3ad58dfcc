/- Joined texts of this proof: TuU. -/
import Derived.Outline
import Derived.Test.YtphabkaiheplpaaGreatDoorTurns44
/- MatchTurns from its changed sides on. -/
set_option linter.unusedVariables false
set_option linter.unusedSimpArgs false
set_option maxRecDepth 100000
namespace Go.Proofs.YtphabkaiheplpaaGreatDoor
open Go.RowKit Go.Shelf

theorem two_made {W0 W w1 w2 : World} {b c : Nat} {zs : List ByteArray} {tol : Int} (hpw : PowT W0) (hl : Below W0.heap.size W0 W) (h1 : BkI (fun i => W.heap.size ≤ i ∧ i < w1.heap.size) w1 b zs tol [] []) (hb1 : Below W.heap.size W w1) (h2 : BkI (fun i => w1.heap.size ≤ i ∧ i < w2.heap.size) w2 c zs tol [] []) (hb2 : Below w1.heap.size w1 w2) :
    Two W0 w2 (fun i => W.heap.size ≤ i ∧ i < w1.heap.size) (fun i => w1.heap.size ≤ i ∧ i < w2.heap.size) b c zs tol [] [] [] [] :=
  ⟨h1.grow hb2, h2, fun i a b => by omega, fun i a => by have := hl.size; omega, fun i a => by have := (bl_then hl hb1).size; omega, pow_free (hpw.below hl), pow_free (hpw.below (bl_then hl hb1)), bl_then (bl_then hl hb1) hb2⟩
/-- What MatchTurns's later half stands on. -/
structure TurnC (W0 : World) (sx sy : Nat) (A : Option Addr) (n ca : Nat) (zs : List ByteArray) (tol : Int) (p q : Int) (x y : Nt) (lx ly : List Lk) : Prop where
  hp : I64 p
  hq : I64 q
  hx : x.wf
  hy : y.wf
  hrx : RdL W0 x.la x.ln lx
  hry : RdL W0 y.la y.ln ly
  okx : OkL lx
  oky : OkL ly
  hnx : x.ln * 24 ≤ 140737488351232
  hny : y.ln * 24 ≤ 140737488351232
  hsh : Short zs
  ht : I64 tol
  hpw : PowT W0
  hzl : zs.length ≤ 140737488351232
  hrt : RdT W0 A n zs
  hnn : n * 16 ≤ 140737488351232
  bx : W0.heap[sx]? = some (.cells (sideC p x) 28 (0, 0))
  by_ : W0.heap[sy]? = some (.cells (sideC q y) 28 (0, 0))
set_option maxHeartbeats 8000000 in
set_option maxRecDepth 1000000 in
theorem turns21 {W0 W : World} {zs : List ByteArray} {tol : Int} {p q : Int} {x y : Nt} {lx ly : List Lk} {ok : Bool} {sx sy : Nat} {A : Option Addr} {n ca : Nat} (u0 u1 u4 u5 u8 u9 u10 u11 u12 u13 u15 u16 u17 u18 u19 u20 u21 u22 u23 u24 u25 u26 u27 u28 u29 u30 u31 u32 u33 u34 u35 u36 u37 u38 u39 u40 u41 u42 u43 u44 u45 u46 u47 u48 u49 u50 u51 u52 u53 u54 u55 u56 u57 u58 u59 u60 u61 u62 u63 u64 u65 u66 u67 u68 u69 u70 u71 u72 u73 u74 u75 u76 u77 u78 u79 u80 u81 u82 u83 u84 u85 u86 u87 u88 u89 u90 u91 u92 u93 u94 u95 u96 u97 u98 u99 u100 u101 u102 u103 u104 u105 u106 u107 u108 u109 u110 u111 u112 u113 u114 u115 u116 u117 u118 u119 u120 u121 u122 u123 u124 u125 u126 u127 u128 u129 u130 u131 u132 u133 u134 u135 u136 u137 u138 u139 u140 u141 u142 u143 u144 u145 u146 u147 u148 u149 u150 u151 u152 u153 u154 u155 u156 u157 u158 u159 u160 u161 u162 u163 u164 u165 u166 u167 u168 u169 u170 u171 u172 u173 u174 u175 u176 u177 u178 u179 u180 u181 u182 u183 u184 u185 u186 u187 u188 u189 u190 u191 u192 u193 u194 u195 u196 u197 u198 u199 u200 u201 u202 u203 u204 u205 u206 u207 u208 u209 u210 u211 u212 u213 u214 u215 u216 u217 u218 u219 u220 u221 u222 u223 u224 u225 u226 u227 u228 u229 u230 u231 u232 u233 u234 u235 u236 u237 u238 u239 u240 u241 u242 u243 u244 u245 u246 u247 u248 u249 u250 u251 u252 u253 u254 u255 u256 u257 u258 u259 u260 u261 u262 u263 u264 u265 : Value) {Φ : Ending → World → Prop}
    (C : TurnC W0 sx sy A n ca zs tol p q x y lx ly) (hok : ok = (fitE p q x y zs tol).2) (hl : Below W0.heap.size W0 W)
    (post : ∀ W', Below W0.heap.size W0 W' → Φ (.returned (.bool true)) W') :
    Code.wp Tryz.prog (turnsR 21) (bodyPost Tryz.prog Tryz.f3 Φ) ⟨#[u0, u1, .slice A n ca, .int .i64 tol, u4, u5, .pointer (some ⟨sx, 0, none⟩), .pointer (some ⟨sy, 0, none⟩), u8, u9, u10, u11, u12, u13, .bool ok, u15, u16, u17, u18, u19, u20, u21, u22, u23, u24, u25, u26, u27, u28, u29, u30, u31, u32, u33, u34, u35, u36, u37, u38, u39, u40, u41, u42, u43, u44, u45, u46, u47, u48, u49, u50, u51, u52, u53, u54, u55, u56, u57, u58, u59, u60, u61, u62, u63, u64, u65, u66, u67, u68, u69, u70, u71, u72, u73, u74, u75, u76, u77, u78, u79, u80, u81, u82, u83, u84, u85, u86, u87, u88, u89, u90, u91, u92, u93, u94, u95, u96, u97, u98, u99, u100, u101, u102, u103, u104, u105, u106, u107, u108, u109, u110, u111, u112, u113, u114, u115, u116, u117, u118, u119, u120, u121, u122, u123, u124, u125, u126, u127, u128, u129, u130, u131, u132, u133, u134, u135, u136, u137, u138, u139, u140, u141, u142, u143, u144, u145, u146, u147, u148, u149, u150, u151, u152, u153, u154, u155, u156, u157, u158, u159, u160, u161, u162, u163, u164, u165, u166, u167, u168, u169, u170, u171, u172, u173, u174, u175, u176, u177, u178, u179, u180, u181, u182, u183, u184, u185, u186, u187, u188, u189, u190, u191, u192, u193, u194, u195, u196, u197, u198, u199, u200, u201, u202, u203, u204, u205, u206, u207, u208, u209, u210, u211, u212, u213, u214, u215, u216, u217, u218, u219, u220, u221, u222, u223, u224, u225, u226, u227, u228, u229, u230, u231, u232, u233, u234, u235, u236, u237, u238, u239, u240, u241, u242, u243, u244, u245, u246, u247, u248, u249, u250, u251, u252, u253, u254, u255, u256, u257, u258, u259, u260, u261, u262, u263, u264, u265], []⟩ W := by
  have HC := Lib.hid C
  have HL := Lib.hid hl
  have HOK := Lib.hid hok
  have HPO := Lib.hid post
  clear C hl hok post
  conv => arg 2; whnf
  dsimp only
  have N1 := Lib.hid (new_any A n ca zs tol W (HC.out.hrt.below HL.out) HC.out.hnn)
  go_upto_region 22 with (go_at_call 9; (with_reducible refine N1.out.mono ?_); rintro e w1 ⟨b, rfl, hk, hb⟩; have HK1 := Lib.hid hk; have HB1 := Lib.hid hb; clear hk hb)
  clear N1
  have N2 := Lib.hid (new_any A n ca zs tol w1 (HC.out.hrt.below (bl_then HL.out HB1.out)) HC.out.hnn)
  go_upto_region 23 with (go_at_call 9; (with_reducible refine N2.out.mono ?_); rintro e w2 ⟨c, rfl, hk, hb⟩; have HT := Lib.hid (two_made HC.out.hpw HL.out HK1.out HB1.out hk hb); clear hk hb)
  clear N2
  go_cut [190] (fun v wx => v = .bool false ∧ wx = w2)
  case first =>
    go_wp2
    go_meet
    exact ⟨rfl, rfl⟩
  case rest =>
    obtain ⟨rfl, rfl⟩ := hcut
    go_upto_if 190 with fail
    refine wp_cond_false rfl (wp_skip ?_)
    rename_i hK
    refine hK _ _ ?_
    exact turns25 _ _ _ _ _ _ _ _ _ _ _ _ _ _ _ _ _ _ _ _ _ _ _ _ _ _ _ _ _ _ _ _ _ _ _ _ _ _ _ _ _ _ _ _ _ _ _ _ _ _ _ _ _ _ _ _ _ _ _ _ _ _ _ _ _ _ _ _ _ _ _ _ _ _ _ _ _ _ _ _ _ _ _ _ _ _ _ _ _ _ _ _ _ _ _ _ _ _ _ _ _ _ _ _ _ _ _ _ _ _ _ _ _ _ _ _ _ _ _ _ _ _ _ _ _ _ _ _ _ _ _ _ _ _ _ _ _ _ _ _ _ _ _ _ _ _ _ _ _ _ _ _ _ _ _ _ _ _ _ _ _ _ _ _ _ _ _ _ _ _ _ _ _ _ _ _ _ _ _ _ _ _ _ _ _ _ _ _ _ _ _ _ _ _ _ _ _ _ _ _ _ _ _ _ _ _ _ _ _ _ _ _ _ _ _ _ _ _ _ _ _ _ _ _ _ _ _ _ _ _ _ _ _ _ _ _ _ _ _ _ _ _ _ _ _ _ _ _ _ _ _ _ _ _ _ _ _ _ _ HT.out HOK.out HC.out.hp HC.out.hq HC.out.hx HC.out.hy HC.out.hrx HC.out.hry HC.out.okx HC.out.oky HC.out.hnx HC.out.hny HC.out.hsh HC.out.ht HC.out.hpw HC.out.hzl (fun W h => load_side p x W sx _ (blk_none HC.out.bx (gb_below h))) (fun W h => load_side q y W sy _ (blk_none HC.out.by_ (gb_below h))) (fun W h => fit_any q p y x A n ca zs tol W HC.out.hq HC.out.hp HC.out.hy HC.out.hx HC.out.ht (HC.out.hrt.below h) HC.out.hsh (by have := HC.out.hnn; omega) (HC.out.hpw.below h)) HPO.out
set_option maxHeartbeats 8000000 in
set_option maxRecDepth 1000000 in
theorem turns19 {W0 W : World} {zs : List ByteArray} {tol : Int} {p q : Int} {x y : Nt} {lx ly : List Lk} {ok : Bool} {sx sy : Nat} {A : Option Addr} {n ca : Nat} (u0 u1 u4 u5 u8 u9 u10 u11 u12 u13 u15 u16 u17 u18 u19 u20 u21 u22 u23 u24 u25 u26 u27 u28 u29 u30 u31 u32 u33 u34 u35 u36 u37 u38 u39 u40 u41 u42 u43 u44 u45 u46 u47 u48 u49 u50 u51 u52 u53 u54 u55 u56 u57 u58 u59 u60 u61 u62 u63 u64 u65 u66 u67 u68 u69 u70 u71 u72 u73 u74 u75 u76 u77 u78 u79 u80 u81 u82 u83 u84 u85 u86 u87 u88 u89 u90 u91 u92 u93 u94 u95 u96 u97 u98 u99 u100 u101 u102 u103 u104 u105 u106 u107 u108 u109 u110 u111 u112 u113 u114 u115 u116 u117 u118 u119 u120 u121 u122 u123 u124 u125 u126 u127 u128 u129 u130 u131 u132 u133 u134 u135 u136 u137 u138 u139 u140 u141 u142 u143 u144 u145 u146 u147 u148 u149 u150 u151 u152 u153 u154 u155 u156 u157 u158 u159 u160 u161 u162 u163 u164 u165 u166 u167 u168 u169 u170 u171 u172 u173 u174 u175 u176 u177 u178 u179 u180 u181 u182 u183 u184 u185 u186 u187 u188 u189 u190 u191 u192 u193 u194 u195 u196 u197 u198 u199 u200 u201 u202 u203 u204 u205 u206 u207 u208 u209 u210 u211 u212 u213 u214 u215 u216 u217 u218 u219 u220 u221 u222 u223 u224 u225 u226 u227 u228 u229 u230 u231 u232 u233 u234 u235 u236 u237 u238 u239 u240 u241 u242 u243 u244 u245 u246 u247 u248 u249 u250 u251 u252 u253 u254 u255 u256 u257 u258 u259 u260 u261 u262 u263 u264 u265 : Value) {Φ : Ending → World → Prop}
    (C : TurnC W0 sx sy A n ca zs tol p q x y lx ly) (hok : ok = (fitE p q x y zs tol).2) (hl : Below W0.heap.size W0 W)
    (post : ∀ W', Below W0.heap.size W0 W' → Φ (.returned (.bool true)) W') :
    Code.wp Tryz.prog (turnsR 19) (bodyPost Tryz.prog Tryz.f3 Φ) ⟨#[u0, u1, .slice A n ca, .int .i64 tol, u4, u5, .pointer (some ⟨sx, 0, none⟩), .pointer (some ⟨sy, 0, none⟩), u8, u9, u10, u11, u12, u13, .bool ok, u15, u16, u17, u18, u19, u20, u21, u22, u23, u24, u25, u26, u27, u28, u29, u30, u31, u32, u33, u34, u35, u36, u37, u38, u39, u40, u41, u42, u43, u44, u45, u46, u47, u48, u49, u50, u51, u52, u53, u54, u55, u56, u57, u58, u59, u60, u61, u62, u63, u64, u65, u66, u67, u68, u69, u70, u71, u72, u73, u74, u75, u76, u77, u78, u79, u80, u81, u82, u83, u84, u85, u86, u87, u88, u89, u90, u91, u92, u93, u94, u95, u96, u97, u98, u99, u100, u101, u102, u103, u104, u105, u106, u107, u108, u109, u110, u111, u112, u113, u114, u115, u116, u117, u118, u119, u120, u121, u122, u123, u124, u125, u126, u127, u128, u129, u130, u131, u132, u133, u134, u135, u136, u137, u138, u139, u140, u141, u142, u143, u144, u145, u146, u147, u148, u149, u150, u151, u152, u153, u154, u155, u156, u157, u158, u159, u160, u161, u162, u163, u164, u165, u166, u167, u168, u169, u170, u171, u172, u173, u174, u175, u176, u177, u178, u179, u180, u181, u182, u183, u184, u185, u186, u187, u188, u189, u190, u191, u192, u193, u194, u195, u196, u197, u198, u199, u200, u201, u202, u203, u204, u205, u206, u207, u208, u209, u210, u211, u212, u213, u214, u215, u216, u217, u218, u219, u220, u221, u222, u223, u224, u225, u226, u227, u228, u229, u230, u231, u232, u233, u234, u235, u236, u237, u238, u239, u240, u241, u242, u243, u244, u245, u246, u247, u248, u249, u250, u251, u252, u253, u254, u255, u256, u257, u258, u259, u260, u261, u262, u263, u264, u265], []⟩ W := by
  have HC := Lib.hid C
  have HL := Lib.hid hl
  have HOK := Lib.hid hok
  have HPO := Lib.hid post
  have bx := blk_none C.bx (gb_below hl)
  have by_ := blk_none C.by_ (gb_below hl)
  have c1 : W.cell? ⟨sx, 0, none⟩ = some (.int .i64 p) := cell_of_row W sx 0 _ _ _ bx
  have c2 : W.cell? ⟨sx, 1, none⟩ = some (.string x.ref) := cell_of_row W sx 1 _ _ _ bx
  have c3 : W.cell? ⟨sy, 0, none⟩ = some (.int .i64 q) := cell_of_row W sy 0 _ _ _ by_
  have c4 : W.cell? ⟨sy, 1, none⟩ = some (.string y.ref) := cell_of_row W sy 1 _ _ _ by_
  clear C hl hok post bx by_
  conv => arg 2; whnf
  dsimp only
  generalize x.ref = xr at c2
  generalize y.ref = yr at c4
  by_cases h1 : p = q
  · have d1 : (p == q) = true := by simp [h1]
    clear h1
    by_cases h2 : (xr.toList == yr.toList) = true
    · go_wp2
      exact HPO.out _ HL.out
    · have d2 : (xr.toList == yr.toList) = false := by rwa [Bool.not_eq_true] at h2
      clear h2
      go_upto_if 178 with fail
      refine wp_cond_false rfl (wp_skip ?_)
      rename_i hK
      refine hK _ _ ?_
      exact turns21 _ _ _ _ _ _ _ _ _ _ _ _ _ _ _ _ _ _ _ _ _ _ _ _ _ _ _ _ _ _ _ _ _ _ _ _ _ _ _ _ _ _ _ _ _ _ _ _ _ _ _ _ _ _ _ _ _ _ _ _ _ _ _ _ _ _ _ _ _ _ _ _ _ _ _ _ _ _ _ _ _ _ _ _ _ _ _ _ _ _ _ _ _ _ _ _ _ _ _ _ _ _ _ _ _ _ _ _ _ _ _ _ _ _ _ _ _ _ _ _ _ _ _ _ _ _ _ _ _ _ _ _ _ _ _ _ _ _ _ _ _ _ _ _ _ _ _ _ _ _ _ _ _ _ _ _ _ _ _ _ _ _ _ _ _ _ _ _ _ _ _ _ _ _ _ _ _ _ _ _ _ _ _ _ _ _ _ _ _ _ _ _ _ _ _ _ _ _ _ _ _ _ _ _ _ _ _ _ _ _ _ _ _ _ _ _ _ _ _ _ _ _ _ _ _ _ _ _ _ _ _ _ _ _ _ _ _ _ _ _ _ _ _ _ _ _ _ _ _ _ _ _ _ _ _ _ _ _ _ _ _ HC.out HOK.out HL.out HPO.out
  · have d1 : (p == q) = false := by simp [h1]
    clear h1
    go_upto_if 178 with fail
    refine wp_cond_false rfl (wp_skip ?_)
    rename_i hK
    refine hK _ _ ?_
    exact turns21 _ _ _ _ _ _ _ _ _ _ _ _ _ _ _ _ _ _ _ _ _ _ _ _ _ _ _ _ _ _ _ _ _ _ _ _ _ _ _ _ _ _ _ _ _ _ _ _ _ _ _ _ _ _ _ _ _ _ _ _ _ _ _ _ _ _ _ _ _ _ _ _ _ _ _ _ _ _ _ _ _ _ _ _ _ _ _ _ _ _ _ _ _ _ _ _ _ _ _ _ _ _ _ _ _ _ _ _ _ _ _ _ _ _ _ _ _ _ _ _ _ _ _ _ _ _ _ _ _ _ _ _ _ _ _ _ _ _ _ _ _ _ _ _ _ _ _ _ _ _ _ _ _ _ _ _ _ _ _ _ _ _ _ _ _ _ _ _ _ _ _ _ _ _ _ _ _ _ _ _ _ _ _ _ _ _ _ _ _ _ _ _ _ _ _ _ _ _ _ _ _ _ _ _ _ _ _ _ _ _ _ _ _ _ _ _ _ _ _ _ _ _ _ _ _ _ _ _ _ _ _ _ _ _ _ _ _ _ _ _ _ _ _ _ _ _ _ _ _ _ _ _ _ _ _ _ _ _ _ _ _ HC.out HOK.out HL.out HPO.out
set_option maxHeartbeats 8000000 in
set_option maxRecDepth 1000000 in
theorem turns16 {W0 W : World} {zs : List ByteArray} {tol : Int} {p q : Int} {x y : Nt} {lx ly : List Lk} {n1 : Int} {ok : Bool} {sx sy gx gy : Nat} {SX SY : Array Value} {A : Option Addr} {n ca : Nat} (u0 u1 u4 u5 u8 u9 u10 u11 u12 u15 u16 u19 u20 u21 u22 u23 u24 u25 u26 u27 u28 u29 u30 u31 u32 u33 u34 u35 u36 u37 u38 u39 u40 u41 u42 u43 u44 u45 u46 u47 u48 u49 u50 u51 u52 u53 u54 u55 u56 u57 u58 u59 u60 u61 u62 u63 u64 u65 u66 u67 u68 u69 u70 u71 u72 u73 u74 u75 u76 u77 u78 u79 u80 u81 u82 u83 u84 u85 u86 u87 u88 u89 u90 u91 u92 u93 u94 u95 u96 u97 u98 u99 u100 u101 u102 u103 u104 u105 u106 u107 u108 u109 u110 u111 u112 u113 u114 u115 u116 u117 u118 u119 u120 u121 u122 u123 u124 u125 u126 u127 u128 u129 u130 u131 u132 u133 u134 u135 u136 u137 u138 u139 u140 u141 u142 u143 u144 u145 u146 u147 u148 u149 u150 u151 u152 u153 u154 u155 u156 u157 u158 u159 u160 u161 u162 u163 u164 u165 u166 u167 u168 u169 u170 u171 u172 u173 u174 u175 u176 u177 u178 u179 u180 u181 u182 u183 u184 u185 u186 u187 u188 u189 u190 u191 u192 u193 u194 u195 u196 u197 u198 u199 u200 u201 u202 u203 u204 u205 u206 u207 u208 u209 u210 u211 u212 u213 u214 u215 u216 u217 u218 u219 u220 u221 u222 u223 u224 u225 u226 u227 u228 u229 u230 u231 u232 u233 u234 u235 u236 u237 u238 u239 u240 u241 u242 u243 u244 u245 u246 u247 u248 u249 u250 u251 u252 u253 u254 u255 u256 u257 u258 u259 u260 u261 u262 u263 u264 u265 : Value) {Φ : Ending → World → Prop}
    (C : TurnC W0 sx sy A n ca zs tol p q x y lx ly) (hok : (n1, ok) = fitE p q x y zs tol) (hl : Below W0.heap.size W0 W)
    (lx0 : Sem.run Tryz.prog (loadVar 28 ⟨gx, 0, none⟩) W = .ok (.agg SX) W) (ly0 : Sem.run Tryz.prog (loadVar 28 ⟨gy, 0, none⟩) W = .ok (.agg SY) W)
    (hfit : Calls Tryz.prog 7 #[.agg SX, .agg SY, .slice A n ca, .int .i64 tol] W fun e w' => e = .returned (.tuple #[.int .i64 n1, .bool ok]) ∧ Below W.heap.size W w')
    (post : ∀ W', Below W0.heap.size W0 W' → Φ (.returned (.bool true)) W') :
    Code.wp Tryz.prog (turnsR 16) (bodyPost Tryz.prog Tryz.f3 Φ) ⟨#[u0, u1, .slice A n ca, .int .i64 tol, u4, u5, .pointer (some ⟨sx, 0, none⟩), .pointer (some ⟨sy, 0, none⟩), u8, u9, u10, u11, u12, .int .i64 n1, .bool ok, u15, u16, .pointer (some ⟨gx, 0, none⟩), .pointer (some ⟨gy, 0, none⟩), u19, u20, u21, u22, u23, u24, u25, u26, u27, u28, u29, u30, u31, u32, u33, u34, u35, u36, u37, u38, u39, u40, u41, u42, u43, u44, u45, u46, u47, u48, u49, u50, u51, u52, u53, u54, u55, u56, u57, u58, u59, u60, u61, u62, u63, u64, u65, u66, u67, u68, u69, u70, u71, u72, u73, u74, u75, u76, u77, u78, u79, u80, u81, u82, u83, u84, u85, u86, u87, u88, u89, u90, u91, u92, u93, u94, u95, u96, u97, u98, u99, u100, u101, u102, u103, u104, u105, u106, u107, u108, u109, u110, u111, u112, u113, u114, u115, u116, u117, u118, u119, u120, u121, u122, u123, u124, u125, u126, u127, u128, u129, u130, u131, u132, u133, u134, u135, u136, u137, u138, u139, u140, u141, u142, u143, u144, u145, u146, u147, u148, u149, u150, u151, u152, u153, u154, u155, u156, u157, u158, u159, u160, u161, u162, u163, u164, u165, u166, u167, u168, u169, u170, u171, u172, u173, u174, u175, u176, u177, u178, u179, u180, u181, u182, u183, u184, u185, u186, u187, u188, u189, u190, u191, u192, u193, u194, u195, u196, u197, u198, u199, u200, u201, u202, u203, u204, u205, u206, u207, u208, u209, u210, u211, u212, u213, u214, u215, u216, u217, u218, u219, u220, u221, u222, u223, u224, u225, u226, u227, u228, u229, u230, u231, u232, u233, u234, u235, u236, u237, u238, u239, u240, u241, u242, u243, u244, u245, u246, u247, u248, u249, u250, u251, u252, u253, u254, u255, u256, u257, u258, u259, u260, u261, u262, u263, u264, u265], []⟩ W := by
  have HC := Lib.hid C
  have HL := Lib.hid hl
  have HOK := Lib.hid (show ok = (fitE p q x y zs tol).2 by rw [← hok])
  have HPO := Lib.hid post
  have LX := Lib.hid lx0
  have LY := Lib.hid ly0
  have HF := Lib.hid hfit
  clear C hl hok post lx0 ly0 hfit
  conv => arg 2; whnf
  dsimp only
  go_upto_region 17 with (first | (refine wpList_load_known rfl 28 (.tmp 17) rfl ⟨gx, 0, none⟩ (.agg SX) rfl LX.out ?_) | (refine wpList_load_known rfl 28 (.tmp 18) rfl ⟨gy, 0, none⟩ (.agg SY) rfl LY.out ?_) | (go_at_call 7; (with_reducible refine HF.out.mono ?_); rintro e w1 ⟨rfl, hb⟩; have HB1 := Lib.hid (bl_then HL.out hb); clear hb))
  clear LX LY HF
  have d1 : (ok == ok) = true := by simp
  have d2 : (n1 == n1) = true := by simp
  go_upto_if 164 with fail
  refine wp_cond_false rfl (wp_skip ?_)
  rename_i hK
  refine hK _ _ ?_
  exact turns19 _ _ _ _ _ _ _ _ _ _ _ _ _ _ _ _ _ _ _ _ _ _ _ _ _ _ _ _ _ _ _ _ _ _ _ _ _ _ _ _ _ _ _ _ _ _ _ _ _ _ _ _ _ _ _ _ _ _ _ _ _ _ _ _ _ _ _ _ _ _ _ _ _ _ _ _ _ _ _ _ _ _ _ _ _ _ _ _ _ _ _ _ _ _ _ _ _ _ _ _ _ _ _ _ _ _ _ _ _ _ _ _ _ _ _ _ _ _ _ _ _ _ _ _ _ _ _ _ _ _ _ _ _ _ _ _ _ _ _ _ _ _ _ _ _ _ _ _ _ _ _ _ _ _ _ _ _ _ _ _ _ _ _ _ _ _ _ _ _ _ _ _ _ _ _ _ _ _ _ _ _ _ _ _ _ _ _ _ _ _ _ _ _ _ _ _ _ _ _ _ _ _ _ _ _ _ _ _ _ _ _ _ _ _ _ _ _ _ _ _ _ _ _ _ _ _ _ _ _ _ _ _ _ _ _ _ _ _ _ _ _ _ _ _ _ _ _ _ _ _ _ _ _ _ _ _ _ _ _ _ _ HC.out HOK.out HB1.out HPO.out
end Go.Proofs.YtphabkaiheplpaaGreatDoor
