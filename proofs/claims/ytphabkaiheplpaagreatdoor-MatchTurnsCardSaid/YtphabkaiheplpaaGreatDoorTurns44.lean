/- Joined texts of this proof: TuT. -/
import Derived.Outline
import Derived.Test.YtphabkaiheplpaaGreatDoorTurns43
/- MatchTurns's end: two books, four sides put in. -/
set_option linter.unusedVariables false
set_option linter.unusedSimpArgs false
set_option maxRecDepth 100000
namespace Go.Proofs.YtphabkaiheplpaaGreatDoor
open Go.RowKit Go.Shelf

noncomputable def turnsR (n : Nat) : Code := ((Tryz.f3.body.bind (fromR n)).getD .skip)
set_option maxHeartbeats 8000000 in
set_option maxRecDepth 1000000 in
theorem turns32 {W0 W : World} {F G : Nat → Prop} {b c : Nat} {zs : List ByteArray} {tol : Int} {es : List Ent} {ps : List Pr} {es2 : List Ent} {ps2 : List Pr} {P Q : Int} {ok back : Bool} (u0 u1 u2 u3 u4 u5 u6 u7 u8 u9 u10 u11 u12 u13 u15 u16 u17 u18 u19 u20 u23 u24 u25 u26 u28 u29 u30 u31 u32 u34 u35 u37 u38 u39 u40 u41 u42 u43 u44 u45 u46 u47 u48 u49 u50 u51 u52 u53 u54 u55 u56 u57 u58 u59 u60 u61 u62 u63 u64 u65 u66 u67 u68 u69 u70 u71 u72 u73 u74 u75 u76 u77 u78 u79 u80 u81 u82 u83 u84 u85 u86 u87 u88 u89 u90 u91 u92 u93 u94 u95 u96 u97 u98 u99 u100 u101 u102 u103 u104 u105 u106 u107 u108 u109 u110 u111 u112 u113 u114 u115 u116 u117 u118 u119 u120 u121 u122 u123 u124 u125 u126 u127 u128 u129 u130 u131 u132 u133 u134 u135 u136 u137 u138 u139 u140 u141 u142 u143 u144 u145 u146 u147 u148 u149 u150 u151 u152 u153 u154 u155 u156 u157 u158 u159 u160 u161 u162 u163 u164 u165 u166 u167 u168 u169 u170 u171 u172 u173 u174 u175 u176 u177 u178 u179 u180 u181 u182 u183 u184 u185 u186 u187 u188 u189 u190 u191 u192 u193 u194 u195 u196 u197 u198 u199 u200 u201 u202 u203 u204 u205 u206 u207 u208 u209 u210 u211 u212 u213 u214 u215 u216 u217 u218 u219 u220 u221 u222 u223 u224 u225 u226 u227 u228 u229 u230 u231 u232 u233 u234 u235 u236 u237 u238 u239 u240 u241 u242 u243 u244 u245 u246 u247 u248 u249 u250 u251 u252 u253 u254 u255 u256 u257 u258 u259 u260 u261 u262 u263 u264 u265 : Value) {Φ : Ending → World → Prop}
    (h : Two W0 W F G b c zs tol es ps es2 ps2) (hp : ps.length ≤ 2) (hp2 : ps2.length ≤ 2) (hP : (P == 0) = (ok || back)) (hQ : (Q == 0) = (ok || back)) (hl : (stand ps).length = (stand ps2).length)
    (post : ∀ W', Below W0.heap.size W0 W' → Φ (.returned (.bool true)) W') :
    Code.wp Tryz.prog (turnsR 32) (bodyPost Tryz.prog Tryz.f3 Φ) ⟨#[u0, u1, u2, u3, u4, u5, u6, u7, u8, u9, u10, u11, u12, u13, .bool ok, u15, u16, u17, u18, u19, u20, .pointer (some ⟨b, 0, none⟩), .pointer (some ⟨c, 0, none⟩), u23, u24, u25, u26, .int .i64 P, u28, u29, u30, u31, u32, .int .i64 Q, u34, u35, .bool back, u37, u38, u39, u40, u41, u42, u43, u44, u45, u46, u47, u48, u49, u50, u51, u52, u53, u54, u55, u56, u57, u58, u59, u60, u61, u62, u63, u64, u65, u66, u67, u68, u69, u70, u71, u72, u73, u74, u75, u76, u77, u78, u79, u80, u81, u82, u83, u84, u85, u86, u87, u88, u89, u90, u91, u92, u93, u94, u95, u96, u97, u98, u99, u100, u101, u102, u103, u104, u105, u106, u107, u108, u109, u110, u111, u112, u113, u114, u115, u116, u117, u118, u119, u120, u121, u122, u123, u124, u125, u126, u127, u128, u129, u130, u131, u132, u133, u134, u135, u136, u137, u138, u139, u140, u141, u142, u143, u144, u145, u146, u147, u148, u149, u150, u151, u152, u153, u154, u155, u156, u157, u158, u159, u160, u161, u162, u163, u164, u165, u166, u167, u168, u169, u170, u171, u172, u173, u174, u175, u176, u177, u178, u179, u180, u181, u182, u183, u184, u185, u186, u187, u188, u189, u190, u191, u192, u193, u194, u195, u196, u197, u198, u199, u200, u201, u202, u203, u204, u205, u206, u207, u208, u209, u210, u211, u212, u213, u214, u215, u216, u217, u218, u219, u220, u221, u222, u223, u224, u225, u226, u227, u228, u229, u230, u231, u232, u233, u234, u235, u236, u237, u238, u239, u240, u241, u242, u243, u244, u245, u246, u247, u248, u249, u250, u251, u252, u253, u254, u255, u256, u257, u258, u259, u260, u261, u262, u263, u264, u265], []⟩ W := by
  have H := Lib.hid h
  have HP1 := Lib.hid hp
  have HP2 := Lib.hid hp2
  have HPO := Lib.hid post
  have HE : Hid ((stand ps).length = (stand ps2).length) := Lib.hid hl
  have HA := Lib.hid (pairs_any h.one (by omega))
  clear h hp hp2 post hl
  conv => arg 2; whnf
  dsimp only
  cases ok <;> cases back <;>
    (simp only [Bool.or_false, Bool.or_true, Bool.false_or, Bool.true_or] at hP hQ
     go_wp2_with (first | (go_at_call 11; (with_reducible refine HA.out.mono ?_); rintro e w1 ⟨v1, rfl, hown, hb⟩; obtain ⟨A1, c1, rfl⟩ := ow_slice hown; have HB1 := Lib.hid hb; have HA2 := Lib.hid (pairs_any (H.out.grow hb).two (by have := HP2.out; omega)); rw [HE.out]; clear hown hb HA) | (go_at_call 11; (with_reducible refine HA2.out.mono ?_); rintro e w2 ⟨v2, rfl, hown, hb⟩; obtain ⟨A2, c2, rfl⟩ := ow_slice hown; have HB2 := Lib.hid (bl_then HB1.out hb); clear hown hb HA2))
     exact HPO.out _ (bl_then H.out.low HB2.out))
set_option maxHeartbeats 8000000 in
set_option maxRecDepth 1000000 in
theorem turns29 {W0 W : World} {F G : Nat → Prop} {b c : Nat} {zs : List ByteArray} {tol : Int} {es : List Ent} {ps : List Pr} {es2 : List Ent} {ps2 : List Pr} {P Q nb : Int} {ok back : Bool} {sx sy : Nat} {SX SY v1 v2 v3 v4 : Value} {b1 b2 b3 b4 : Bool} {A : Option Addr} {n ca : Nat} (u0 u1 u4 u5 u8 u9 u10 u11 u12 u13 u15 u16 u17 u18 u19 u20 u23 u24 u26 u29 u30 u32 u35 u36 u37 u38 u39 u40 u41 u42 u43 u44 u45 u46 u47 u48 u49 u50 u51 u52 u53 u54 u55 u56 u57 u58 u59 u60 u61 u62 u63 u64 u65 u66 u67 u68 u69 u70 u71 u72 u73 u74 u75 u76 u77 u78 u79 u80 u81 u82 u83 u84 u85 u86 u87 u88 u89 u90 u91 u92 u93 u94 u95 u96 u97 u98 u99 u100 u101 u102 u103 u104 u105 u106 u107 u108 u109 u110 u111 u112 u113 u114 u115 u116 u117 u118 u119 u120 u121 u122 u123 u124 u125 u126 u127 u128 u129 u130 u131 u132 u133 u134 u135 u136 u137 u138 u139 u140 u141 u142 u143 u144 u145 u146 u147 u148 u149 u150 u151 u152 u153 u154 u155 u156 u157 u158 u159 u160 u161 u162 u163 u164 u165 u166 u167 u168 u169 u170 u171 u172 u173 u174 u175 u176 u177 u178 u179 u180 u181 u182 u183 u184 u185 u186 u187 u188 u189 u190 u191 u192 u193 u194 u195 u196 u197 u198 u199 u200 u201 u202 u203 u204 u205 u206 u207 u208 u209 u210 u211 u212 u213 u214 u215 u216 u217 u218 u219 u220 u221 u222 u223 u224 u225 u226 u227 u228 u229 u230 u231 u232 u233 u234 u235 u236 u237 u238 u239 u240 u241 u242 u243 u244 u245 u246 u247 u248 u249 u250 u251 u252 u253 u254 u255 u256 u257 u258 u259 u260 u261 u262 u263 u264 u265 : Value) {Φ : Ending → World → Prop}
    (h : Two W0 W F G b c zs tol es ps es2 ps2) (hp : ps.length ≤ 2) (hp2 : ps2.length ≤ 2)
    (hall : b1 = false → b2 = false → b3 = false → b4 = false → (P == 0) = (ok || back) ∧ (Q == 0) = (ok || back) ∧ (stand ps).length = (stand ps2).length)
    (lx : Sem.run Tryz.prog (loadVar 28 ⟨sx, 0, none⟩) W = .ok SX W) (ly : Sem.run Tryz.prog (loadVar 28 ⟨sy, 0, none⟩) W = .ok SY W)
    (hfit : Calls Tryz.prog 7 #[SY, SX, .slice A n ca, .int .i64 tol] W fun e w' => e = .returned (.tuple #[.int .i64 nb, .bool back]) ∧ Below W.heap.size W w')
    (n1 : ∀ w, (binOp .neq 36 v1 .nilIface).run Tryz.prog w = .ok (.bool b1) w) (n2 : ∀ w, (binOp .neq 36 v2 .nilIface).run Tryz.prog w = .ok (.bool b2) w) (n3 : ∀ w, (binOp .neq 36 v3 .nilIface).run Tryz.prog w = .ok (.bool b3) w) (n4 : ∀ w, (binOp .neq 36 v4 .nilIface).run Tryz.prog w = .ok (.bool b4) w)
    (g1 : ∀ x c w, (eqGuard .neq 36 x (.const c) v1 .nilIface).run Tryz.prog w = .ok () w) (g2 : ∀ x c w, (eqGuard .neq 36 x (.const c) v2 .nilIface).run Tryz.prog w = .ok () w) (g3 : ∀ x c w, (eqGuard .neq 36 x (.const c) v3 .nilIface).run Tryz.prog w = .ok () w) (g4 : ∀ x c w, (eqGuard .neq 36 x (.const c) v4 .nilIface).run Tryz.prog w = .ok () w)
    (post : ∀ W', Below W0.heap.size W0 W' → Φ (.returned (.bool true)) W') :
    Code.wp Tryz.prog (turnsR 29) (bodyPost Tryz.prog Tryz.f3 Φ) ⟨#[u0, u1, .slice A n ca, .int .i64 tol, u4, u5, .pointer (some ⟨sx, 0, none⟩), .pointer (some ⟨sy, 0, none⟩), u8, u9, u10, u11, u12, u13, .bool ok, u15, u16, u17, u18, u19, u20, .pointer (some ⟨b, 0, none⟩), .pointer (some ⟨c, 0, none⟩), u23, u24, v1, u26, .int .i64 P, v2, u29, u30, v3, u32, .int .i64 Q, v4, u35, u36, u37, u38, u39, u40, u41, u42, u43, u44, u45, u46, u47, u48, u49, u50, u51, u52, u53, u54, u55, u56, u57, u58, u59, u60, u61, u62, u63, u64, u65, u66, u67, u68, u69, u70, u71, u72, u73, u74, u75, u76, u77, u78, u79, u80, u81, u82, u83, u84, u85, u86, u87, u88, u89, u90, u91, u92, u93, u94, u95, u96, u97, u98, u99, u100, u101, u102, u103, u104, u105, u106, u107, u108, u109, u110, u111, u112, u113, u114, u115, u116, u117, u118, u119, u120, u121, u122, u123, u124, u125, u126, u127, u128, u129, u130, u131, u132, u133, u134, u135, u136, u137, u138, u139, u140, u141, u142, u143, u144, u145, u146, u147, u148, u149, u150, u151, u152, u153, u154, u155, u156, u157, u158, u159, u160, u161, u162, u163, u164, u165, u166, u167, u168, u169, u170, u171, u172, u173, u174, u175, u176, u177, u178, u179, u180, u181, u182, u183, u184, u185, u186, u187, u188, u189, u190, u191, u192, u193, u194, u195, u196, u197, u198, u199, u200, u201, u202, u203, u204, u205, u206, u207, u208, u209, u210, u211, u212, u213, u214, u215, u216, u217, u218, u219, u220, u221, u222, u223, u224, u225, u226, u227, u228, u229, u230, u231, u232, u233, u234, u235, u236, u237, u238, u239, u240, u241, u242, u243, u244, u245, u246, u247, u248, u249, u250, u251, u252, u253, u254, u255, u256, u257, u258, u259, u260, u261, u262, u263, u264, u265], []⟩ W := by
  have H := Lib.hid h
  have HP1 := Lib.hid hp
  have HP2 := Lib.hid hp2
  have HPO := Lib.hid post
  have HA := Lib.hid hall
  have LX := Lib.hid lx
  have LY := Lib.hid ly
  have HF := Lib.hid hfit
  clear h hp hp2 post hall lx ly hfit
  conv => arg 2; whnf
  dsimp only
  cases b1 with
  | true =>
    go_wp2
    exact HPO.out _ H.out.low
  | false =>
    cases b2 with
    | true =>
      go_wp2
      exact HPO.out _ H.out.low
    | false =>
      cases b3 with
      | true =>
        go_wp2
        exact HPO.out _ H.out.low
      | false =>
        cases b4 with
        | true =>
          go_wp2
          exact HPO.out _ H.out.low
        | false =>
          have HA2 := Lib.hid (HA.out rfl rfl rfl rfl)
          clear HA
          go_upto_region 31 with fail
          rename_i KA hA
          have HKA := Lib.hid hA
          clear hA
          clear n1 n2 n3 n4 g1 g2 g3 g4
          go_wp2_with (first | (refine wpList_load_known rfl 28 (.tmp 7) rfl ⟨sy, 0, none⟩ SY rfl LY.out ?_) | (refine wpList_load_known rfl 28 (.tmp 6) rfl ⟨sx, 0, none⟩ SX rfl LX.out ?_) | (go_at_call 7; (with_reducible refine HF.out.mono ?_); rintro e w1 ⟨rfl, hb⟩; have HB1 := Lib.hid hb; clear hb))
          refine HKA.out _ _ ?_
          exact turns32 _ _ _ _ _ _ _ _ _ _ _ _ _ _ _ _ _ _ _ _ _ _ _ _ _ _ _ _ _ _ _ _ _ _ _ _ _ _ _ _ _ _ _ _ _ _ _ _ _ _ _ _ _ _ _ _ _ _ _ _ _ _ _ _ _ _ _ _ _ _ _ _ _ _ _ _ _ _ _ _ _ _ _ _ _ _ _ _ _ _ _ _ _ _ _ _ _ _ _ _ _ _ _ _ _ _ _ _ _ _ _ _ _ _ _ _ _ _ _ _ _ _ _ _ _ _ _ _ _ _ _ _ _ _ _ _ _ _ _ _ _ _ _ _ _ _ _ _ _ _ _ _ _ _ _ _ _ _ _ _ _ _ _ _ _ _ _ _ _ _ _ _ _ _ _ _ _ _ _ _ _ _ _ _ _ _ _ _ _ _ _ _ _ _ _ _ _ _ _ _ _ _ _ _ _ _ _ _ _ _ _ _ _ _ _ _ _ _ _ _ _ _ _ _ _ _ _ _ _ _ _ _ _ _ _ _ _ _ _ _ _ _ _ _ _ _ _ _ _ _ _ _ _ _ _ _ _ _ _ _ (H.out.grow HB1.out) HP1.out HP2.out HA2.out.1 HA2.out.2.1 HA2.out.2.2 HPO.out
theorem isNil_of {E : GErr} (h : (!E.isNil) = false) : E = .nil := by
  by_cases hE : E = .nil
  · exact hE
  · rw [GErr.isNil_false hE] at h
    cases h
set_option maxHeartbeats 8000000 in
set_option maxRecDepth 1000000 in
theorem turns25 {W0 W : World} {F G : Nat → Prop} {b c : Nat} {zs : List ByteArray} {tol : Int} {p q : Int} {x y : Nt} {lx ly : List Lk} {ok : Bool} {sx sy : Nat} {A : Option Addr} {n ca : Nat} (u0 u1 u4 u5 u8 u9 u10 u11 u12 u13 u15 u16 u17 u18 u19 u20 u23 u24 u25 u26 u27 u28 u29 u30 u31 u32 u33 u34 u35 u36 u37 u38 u39 u40 u41 u42 u43 u44 u45 u46 u47 u48 u49 u50 u51 u52 u53 u54 u55 u56 u57 u58 u59 u60 u61 u62 u63 u64 u65 u66 u67 u68 u69 u70 u71 u72 u73 u74 u75 u76 u77 u78 u79 u80 u81 u82 u83 u84 u85 u86 u87 u88 u89 u90 u91 u92 u93 u94 u95 u96 u97 u98 u99 u100 u101 u102 u103 u104 u105 u106 u107 u108 u109 u110 u111 u112 u113 u114 u115 u116 u117 u118 u119 u120 u121 u122 u123 u124 u125 u126 u127 u128 u129 u130 u131 u132 u133 u134 u135 u136 u137 u138 u139 u140 u141 u142 u143 u144 u145 u146 u147 u148 u149 u150 u151 u152 u153 u154 u155 u156 u157 u158 u159 u160 u161 u162 u163 u164 u165 u166 u167 u168 u169 u170 u171 u172 u173 u174 u175 u176 u177 u178 u179 u180 u181 u182 u183 u184 u185 u186 u187 u188 u189 u190 u191 u192 u193 u194 u195 u196 u197 u198 u199 u200 u201 u202 u203 u204 u205 u206 u207 u208 u209 u210 u211 u212 u213 u214 u215 u216 u217 u218 u219 u220 u221 u222 u223 u224 u225 u226 u227 u228 u229 u230 u231 u232 u233 u234 u235 u236 u237 u238 u239 u240 u241 u242 u243 u244 u245 u246 u247 u248 u249 u250 u251 u252 u253 u254 u255 u256 u257 u258 u259 u260 u261 u262 u263 u264 u265 : Value) {Φ : Ending → World → Prop}
    (h : Two W0 W F G b c zs tol [] [] [] []) (hok : ok = (fitE p q x y zs tol).2)
    (hp : I64 p) (hq : I64 q) (hx : x.wf) (hy : y.wf) (hrx : RdL W0 x.la x.ln lx) (hry : RdL W0 y.la y.ln ly) (okx : OkL lx) (oky : OkL ly) (hnx : x.ln * 24 ≤ 140737488351232) (hny : y.ln * 24 ≤ 140737488351232) (hsh : Short zs) (ht : I64 tol) (hpw : PowT W0) (hzl : zs.length ≤ 140737488351232)
    (lx0 : ∀ W, Below W0.heap.size W0 W → Sem.run Tryz.prog (loadVar 28 ⟨sx, 0, none⟩) W = .ok (.agg (sideC p x)) W) (ly0 : ∀ W, Below W0.heap.size W0 W → Sem.run Tryz.prog (loadVar 28 ⟨sy, 0, none⟩) W = .ok (.agg (sideC q y)) W)
    (hfit : ∀ W, Below W0.heap.size W0 W → Calls Tryz.prog 7 #[.agg (sideC q y), .agg (sideC p x), .slice A n ca, .int .i64 tol] W fun e w' => e = .returned (.tuple #[.int .i64 (fitE q p y x zs tol).1, .bool (fitE q p y x zs tol).2]) ∧ Below W.heap.size W w')
    (post : ∀ W', Below W0.heap.size W0 W' → Φ (.returned (.bool true)) W') :
    Code.wp Tryz.prog (turnsR 25) (bodyPost Tryz.prog Tryz.f3 Φ) ⟨#[u0, u1, .slice A n ca, .int .i64 tol, u4, u5, .pointer (some ⟨sx, 0, none⟩), .pointer (some ⟨sy, 0, none⟩), u8, u9, u10, u11, u12, u13, .bool ok, u15, u16, u17, u18, u19, u20, .pointer (some ⟨b, 0, none⟩), .pointer (some ⟨c, 0, none⟩), u23, u24, u25, u26, u27, u28, u29, u30, u31, u32, u33, u34, u35, u36, u37, u38, u39, u40, u41, u42, u43, u44, u45, u46, u47, u48, u49, u50, u51, u52, u53, u54, u55, u56, u57, u58, u59, u60, u61, u62, u63, u64, u65, u66, u67, u68, u69, u70, u71, u72, u73, u74, u75, u76, u77, u78, u79, u80, u81, u82, u83, u84, u85, u86, u87, u88, u89, u90, u91, u92, u93, u94, u95, u96, u97, u98, u99, u100, u101, u102, u103, u104, u105, u106, u107, u108, u109, u110, u111, u112, u113, u114, u115, u116, u117, u118, u119, u120, u121, u122, u123, u124, u125, u126, u127, u128, u129, u130, u131, u132, u133, u134, u135, u136, u137, u138, u139, u140, u141, u142, u143, u144, u145, u146, u147, u148, u149, u150, u151, u152, u153, u154, u155, u156, u157, u158, u159, u160, u161, u162, u163, u164, u165, u166, u167, u168, u169, u170, u171, u172, u173, u174, u175, u176, u177, u178, u179, u180, u181, u182, u183, u184, u185, u186, u187, u188, u189, u190, u191, u192, u193, u194, u195, u196, u197, u198, u199, u200, u201, u202, u203, u204, u205, u206, u207, u208, u209, u210, u211, u212, u213, u214, u215, u216, u217, u218, u219, u220, u221, u222, u223, u224, u225, u226, u227, u228, u229, u230, u231, u232, u233, u234, u235, u236, u237, u238, u239, u240, u241, u242, u243, u244, u245, u246, u247, u248, u249, u250, u251, u252, u253, u254, u255, u256, u257, u258, u259, u260, u261, u262, u263, u264, u265], []⟩ W := by
  have H0 := Lib.hid h
  have HPO := Lib.hid post
  have LX := Lib.hid lx0
  have LY := Lib.hid ly0
  have HF := Lib.hid hfit
  have HOK := Lib.hid hok
  have AX := Lib.hid (fun (W : World) (F G : Nat → Prop) (b c : Nat) (es : List Ent) (ps : List Pr) (es2 : List Ent) (ps2 : List Pr) (h : Two W0 W F G b c zs tol es ps es2 ps2) h1 h2 => two_add h hx hp hrx okx hnx hsh ht hpw hzl h1 h2)
  have AY := Lib.hid (fun (W : World) (F G : Nat → Prop) (b c : Nat) (es : List Ent) (ps : List Pr) (es2 : List Ent) (ps2 : List Pr) (h : Two W0 W F G b c zs tol es ps es2 ps2) h1 h2 => two_add h hy hq hry oky hny hsh ht hpw hzl h1 h2)
  clear h post lx0 ly0 hfit hok hp hq hx hy hrx hry okx oky hnx hny hsh ht hpw hzl
  obtain ⟨SX, hSX⟩ : ∃ S, S = sideC p x := ⟨_, rfl⟩
  obtain ⟨SY, hSY⟩ : ∃ S, S = sideC q y := ⟨_, rfl⟩
  rw [← hSX] at LX HF AX
  rw [← hSY] at LY HF AY
  clear hSX hSY
  conv => arg 2; whnf
  dsimp only
  have L1 := Lib.hid (LX.out W H0.out.low)
  have A1 := Lib.hid (AX.out W F G b c [] [] [] [] H0.out (by simp) (by simp))
  go_upto_region 26 with (first | (refine wpList_load_known rfl 28 (.tmp 6) rfl ⟨sx, 0, none⟩ (.agg SX) rfl L1.out ?_) | (go_at_call 10; (with_reducible refine A1.out.mono ?_); rintro e w1 ⟨E1, N1, P1, es1, ps1, F1, rfl, hT, hl1, hl2, hr⟩; have H1 := Lib.hid hT; have HL1 := Lib.hid hl1; have HM1 := Lib.hid hl2; have HR1 := Lib.hid hr; clear hT hl1 hl2 hr))
  clear L1 A1
  have L2 := Lib.hid (LY.out w1 H1.out.low)
  have A2 := Lib.hid (AY.out w1 F1 G b c es1 ps1 [] [] H1.out HL1.out HM1.out)
  go_upto_region 27 with (first | (refine wpList_load_known rfl 28 (.tmp 7) rfl ⟨sy, 0, none⟩ (.agg SY) rfl L2.out ?_) | (go_at_call 10; (with_reducible refine A2.out.mono ?_); rintro e w2 ⟨E2, N2, P2, es2, ps2, F2, rfl, hT, hl1, hl2, hr⟩; have H2 := Lib.hid hT.swap; have HM2 := Lib.hid hl2; have HR2 := Lib.hid hr; clear hT hl1 hl2 hr))
  clear L2 A2
  have L3 := Lib.hid (LY.out w2 H2.out.low)
  have A3 := Lib.hid (AY.out w2 G F2 c b [] [] es2 ps2 H2.out (by simp) (by simp))
  go_upto_region 28 with (first | (refine wpList_load_known rfl 28 (.tmp 7) rfl ⟨sy, 0, none⟩ (.agg SY) rfl L3.out ?_) | (go_at_call 10; (with_reducible refine A3.out.mono ?_); rintro e w3 ⟨E3, N3, P3, es3, ps3, F3, rfl, hT, hl1, hl2, hr⟩; have H3 := Lib.hid hT; have HL3 := Lib.hid hl1; have HM3 := Lib.hid hl2; have HR3 := Lib.hid hr; clear hT hl1 hl2 hr))
  clear L3 A3
  rename_i KA hA
  have HKA := Lib.hid hA
  clear hA
  have L4 := Lib.hid (LX.out w3 H3.out.low)
  have A4 := Lib.hid (AX.out w3 F3 F2 c b es3 ps3 es2 ps2 H3.out HL3.out HM3.out)
  go_wp2_with (first | (refine wpList_load_known rfl 28 (.tmp 6) rfl ⟨sx, 0, none⟩ (.agg SX) rfl L4.out ?_) | (go_at_call 10; (with_reducible refine A4.out.mono ?_); rintro e w4 ⟨E4, N4, P4, es4, ps4, F4, rfl, hT, hl1, hl2, hr⟩; have H4 := Lib.hid hT.swap; have HM4 := Lib.hid hl2; have HR4 := Lib.hid hr; clear hT hl1 hl2 hr))
  clear L4 A4
  refine HKA.out _ _ ?_
  refine turns29 (b1 := !E1.isNil) (b2 := !E2.isNil) (b3 := !E3.isNil) (b4 := !E4.isNil) _ _ _ _ _ _ _ _ _ _ _ _ _ _ _ _ _ _ _ _ _ _ _ _ _ _ _ _ _ _ _ _ _ _ _ _ _ _ _ _ _ _ _ _ _ _ _ _ _ _ _ _ _ _ _ _ _ _ _ _ _ _ _ _ _ _ _ _ _ _ _ _ _ _ _ _ _ _ _ _ _ _ _ _ _ _ _ _ _ _ _ _ _ _ _ _ _ _ _ _ _ _ _ _ _ _ _ _ _ _ _ _ _ _ _ _ _ _ _ _ _ _ _ _ _ _ _ _ _ _ _ _ _ _ _ _ _ _ _ _ _ _ _ _ _ _ _ _ _ _ _ _ _ _ _ _ _ _ _ _ _ _ _ _ _ _ _ _ _ _ _ _ _ _ _ _ _ _ _ _ _ _ _ _ _ _ _ _ _ _ _ _ _ _ _ _ _ _ _ _ _ _ _ _ _ _ _ _ _ _ _ _ _ _ _ _ _ _ _ _ _ _ _ _ _ _ _ _ _ _ _ _ _ _ _ _ _ _ _ _ _ _ _ _ _ _ _ _ _ _ _ _ _ H4.out (by have := HM1.out; have := HM2.out; simp at *; omega) (by have := HM3.out; have := HM4.out; simp at *; omega) (fun h1 h2 h3 h4 => ?_) (LX.out w4 H4.out.low) (LY.out w4 H4.out.low) (HF.out w4 H4.out.low) (neq_nil_err E1) (neq_nil_err E2) (neq_nil_err E3) (neq_nil_err E4) (guard_errN E1) (guard_errN E2) (guard_errN E3) (guard_errN E4) HPO.out
  obtain ⟨la1, lc1, r1⟩ := HR1.out (isNil_of h1)
  obtain ⟨la2, lc2, r2⟩ := HR2.out (isNil_of h2)
  obtain ⟨la3, lc3, r3⟩ := HR3.out (isNil_of h3)
  obtain ⟨la4, lc4, r4⟩ := HR4.out (isNil_of h4)
  have k1 := add_both r1 r2
  have k2 := add_both r3 r4
  rw [Bool.or_comm] at k2
  rw [← HOK.out] at k1 k2
  exact ⟨k1.1, k2.1, k1.2.trans k2.2.symm⟩
end Go.Proofs.YtphabkaiheplpaaGreatDoor
