/- Joined texts of this proof: TuW. -/
import Derived.Outline
import Derived.Test.YtphabkaiheplpaaGreatDoorTurns46
/- MatchTurns from its condition on the amounts on. -/
set_option linter.unusedVariables false
set_option linter.unusedSimpArgs false
set_option maxRecDepth 100000
namespace Go.Proofs.YtphabkaiheplpaaGreatDoor
open Go.RowKit Go.Shelf

set_option maxHeartbeats 8000000 in
set_option maxRecDepth 1000000 in
theorem turns5 {W0 W : World} {zs : List ByteArray} {tol : Int} {p q : Int} {x y z : Nt} {lx ly : List Lk} {n1 : Int} {ok : Bool} {sx sy nz : Nat} {A : Option Addr} {n ca : Nat} (u0 u1 u4 u5 u8 u9 u10 u12 u15 u16 u17 u18 u19 u20 u21 u22 u23 u24 u25 u26 u27 u28 u29 u30 u31 u32 u33 u34 u35 u36 u37 u38 u39 u40 u41 u42 u43 u44 u45 u46 u47 u48 u49 u50 u51 u52 u53 u54 u55 u56 u57 u58 u59 u60 u61 u62 u63 u64 u65 u66 u67 u68 u69 u70 u71 u72 u73 u74 u75 u76 u77 u78 u79 u80 u81 u82 u83 u84 u85 u86 u87 u88 u89 u90 u91 u92 u93 u94 u95 u96 u97 u98 u99 u100 u101 u102 u103 u104 u105 u106 u107 u108 u109 u110 u111 u112 u113 u114 u115 u116 u117 u118 u119 u120 u121 u122 u123 u124 u125 u126 u127 u128 u129 u130 u131 u132 u133 u134 u135 u136 u137 u138 u139 u140 u141 u142 u143 u144 u145 u146 u147 u148 u149 u150 u151 u152 u153 u154 u155 u156 u157 u158 u159 u160 u161 u162 u163 u164 u165 u166 u167 u168 u169 u170 u171 u172 u173 u174 u175 u176 u177 u178 u179 u180 u181 u182 u183 u184 u185 u186 u187 u188 u189 u190 u191 u192 u193 u194 u195 u196 u197 u198 u199 u200 u201 u202 u203 u204 u205 u206 u207 u208 u209 u210 u211 u212 u213 u214 u215 u216 u217 u218 u219 u220 u221 u222 u223 u224 u225 u226 u227 u228 u229 u230 u231 u232 u233 u234 u235 u236 u237 u238 u239 u240 u241 u242 u243 u244 u245 u246 u247 u248 u249 u250 u251 u252 u253 u254 u255 u256 u257 u258 u259 u260 u261 u262 u263 u264 u265 : Value) {Φ : Ending → World → Prop}
    (C : TurnC W0 sx sy A n ca zs tol p q x y lx ly) (hok : (n1, ok) = fitE p q x y zs tol) (hl : Below W0.heap.size W0 W) (hz : z.wf) (bz : W0.heap[nz]? = some (.cells (noteC z) 26 (0, 0)))
    (post : ∀ W', Below W0.heap.size W0 W' → Φ (.returned (.bool true)) W') :
    Code.wp Tryz.prog (turnsR 5) (bodyPost Tryz.prog Tryz.f3 Φ) ⟨#[u0, u1, .slice A n ca, .int .i64 tol, u4, u5, .pointer (some ⟨sx, 0, none⟩), .pointer (some ⟨sy, 0, none⟩), u8, u9, u10, .pointer (some ⟨nz, 0, none⟩), u12, .int .i64 n1, .bool ok, u15, u16, u17, u18, u19, u20, u21, u22, u23, u24, u25, u26, u27, u28, u29, u30, u31, u32, u33, u34, u35, u36, u37, u38, u39, u40, u41, u42, u43, u44, u45, u46, u47, u48, u49, u50, u51, u52, u53, u54, u55, u56, u57, u58, u59, u60, u61, u62, u63, u64, u65, u66, u67, u68, u69, u70, u71, u72, u73, u74, u75, u76, u77, u78, u79, u80, u81, u82, u83, u84, u85, u86, u87, u88, u89, u90, u91, u92, u93, u94, u95, u96, u97, u98, u99, u100, u101, u102, u103, u104, u105, u106, u107, u108, u109, u110, u111, u112, u113, u114, u115, u116, u117, u118, u119, u120, u121, u122, u123, u124, u125, u126, u127, u128, u129, u130, u131, u132, u133, u134, u135, u136, u137, u138, u139, u140, u141, u142, u143, u144, u145, u146, u147, u148, u149, u150, u151, u152, u153, u154, u155, u156, u157, u158, u159, u160, u161, u162, u163, u164, u165, u166, u167, u168, u169, u170, u171, u172, u173, u174, u175, u176, u177, u178, u179, u180, u181, u182, u183, u184, u185, u186, u187, u188, u189, u190, u191, u192, u193, u194, u195, u196, u197, u198, u199, u200, u201, u202, u203, u204, u205, u206, u207, u208, u209, u210, u211, u212, u213, u214, u215, u216, u217, u218, u219, u220, u221, u222, u223, u224, u225, u226, u227, u228, u229, u230, u231, u232, u233, u234, u235, u236, u237, u238, u239, u240, u241, u242, u243, u244, u245, u246, u247, u248, u249, u250, u251, u252, u253, u254, u255, u256, u257, u258, u259, u260, u261, u262, u263, u264, u265], []⟩ W := by
  have HC := Lib.hid C
  have HL := Lib.hid hl
  have HOK := Lib.hid hok
  have HZ := Lib.hid hz
  have HBZ := Lib.hid bz
  have HPO := Lib.hid post
  have bx := blk_none C.bx (gb_below hl)
  have by_ := blk_none C.by_ (gb_below hl)
  have c1 : W.cell? ⟨sx, 24, none⟩ = some (.int .i64 x.amount) := cell_of_row W sx 24 _ _ _ bx
  have c2 : W.cell? ⟨sx, 5, none⟩ = some (.bool x.pay) := cell_of_row W sx 5 _ _ _ bx
  have c3 : W.cell? ⟨sy, 24, none⟩ = some (.int .i64 y.amount) := cell_of_row W sy 24 _ _ _ by_
  have f1 : x.pay = false → (n1 != 0) = false := fun h => by
    have := fit_free (p := p) (q := q) (y := y) (zs := zs) (tol := tol) h
    rw [← hok] at this
    simpa using this
  have f2 : ok = true → x.pay = true → (n1 != x.amount) = false := fun h1 h => by
    have := fit_pay (p := p) (q := q) (x := x) (y := y) (zs := zs) (tol := tol) (by rw [← hok]; exact h1) h
    rw [← hok] at this
    simpa using this
  have f3 : ok = true → x.pay = true → (tol == 0) = true → (n1 != y.amount) = false := fun h1 h h2 => by
    have h2 : tol = 0 := by simpa using h2
    rw [h2] at hok
    have := fit_same (p := p) (q := q) (x := x) (y := y) (zs := zs) (by rw [← hok]; exact h1) h
    rw [← hok] at this
    simpa using this
  clear C hok hl post bx by_ hz bz
  conv => arg 2; whnf
  dsimp only
  generalize x.amount = am at c1 f2
  generalize y.amount = bm at c3 f3
  generalize x.pay = pay at c2 f1 f2 f3
  cases ok with
  | false =>
    clear f1 f2 f3
    go_upto_if 118 with fail
    refine wp_cond_false rfl (wp_skip ?_)
    rename_i hK
    refine hK _ _ ?_
    exact turns7 _ _ _ _ _ _ _ _ _ _ _ _ _ _ _ _ _ _ _ _ _ _ _ _ _ _ _ _ _ _ _ _ _ _ _ _ _ _ _ _ _ _ _ _ _ _ _ _ _ _ _ _ _ _ _ _ _ _ _ _ _ _ _ _ _ _ _ _ _ _ _ _ _ _ _ _ _ _ _ _ _ _ _ _ _ _ _ _ _ _ _ _ _ _ _ _ _ _ _ _ _ _ _ _ _ _ _ _ _ _ _ _ _ _ _ _ _ _ _ _ _ _ _ _ _ _ _ _ _ _ _ _ _ _ _ _ _ _ _ _ _ _ _ _ _ _ _ _ _ _ _ _ _ _ _ _ _ _ _ _ _ _ _ _ _ _ _ _ _ _ _ _ _ _ _ _ _ _ _ _ _ _ _ _ _ _ _ _ _ _ _ _ _ _ _ _ _ _ _ _ _ _ _ _ _ _ _ _ _ _ _ _ _ _ _ _ _ _ _ _ _ _ _ _ _ _ _ _ _ _ _ _ _ _ _ _ _ _ _ _ _ _ _ _ _ _ _ _ _ _ _ _ _ _ _ _ _ _ _ HC.out HOK.out HL.out HZ.out HBZ.out HPO.out
  | true =>
    cases pay with
    | false =>
      have d1 := f1 rfl
      clear f1 f2 f3
      cases d2 : (n1 != am) with
      | true =>
        cases d3 : (tol == 0) with
        | true =>
          go_upto_if 118 with fail
          refine wp_cond_false rfl (wp_skip ?_)
          rename_i hK
          refine hK _ _ ?_
          exact turns7 _ _ _ _ _ _ _ _ _ _ _ _ _ _ _ _ _ _ _ _ _ _ _ _ _ _ _ _ _ _ _ _ _ _ _ _ _ _ _ _ _ _ _ _ _ _ _ _ _ _ _ _ _ _ _ _ _ _ _ _ _ _ _ _ _ _ _ _ _ _ _ _ _ _ _ _ _ _ _ _ _ _ _ _ _ _ _ _ _ _ _ _ _ _ _ _ _ _ _ _ _ _ _ _ _ _ _ _ _ _ _ _ _ _ _ _ _ _ _ _ _ _ _ _ _ _ _ _ _ _ _ _ _ _ _ _ _ _ _ _ _ _ _ _ _ _ _ _ _ _ _ _ _ _ _ _ _ _ _ _ _ _ _ _ _ _ _ _ _ _ _ _ _ _ _ _ _ _ _ _ _ _ _ _ _ _ _ _ _ _ _ _ _ _ _ _ _ _ _ _ _ _ _ _ _ _ _ _ _ _ _ _ _ _ _ _ _ _ _ _ _ _ _ _ _ _ _ _ _ _ _ _ _ _ _ _ _ _ _ _ _ _ _ _ _ _ _ _ _ _ _ _ _ _ _ _ _ _ _ HC.out HOK.out HL.out HZ.out HBZ.out HPO.out
        | false =>
          go_upto_if 118 with fail
          refine wp_cond_false rfl (wp_skip ?_)
          rename_i hK
          refine hK _ _ ?_
          exact turns7 _ _ _ _ _ _ _ _ _ _ _ _ _ _ _ _ _ _ _ _ _ _ _ _ _ _ _ _ _ _ _ _ _ _ _ _ _ _ _ _ _ _ _ _ _ _ _ _ _ _ _ _ _ _ _ _ _ _ _ _ _ _ _ _ _ _ _ _ _ _ _ _ _ _ _ _ _ _ _ _ _ _ _ _ _ _ _ _ _ _ _ _ _ _ _ _ _ _ _ _ _ _ _ _ _ _ _ _ _ _ _ _ _ _ _ _ _ _ _ _ _ _ _ _ _ _ _ _ _ _ _ _ _ _ _ _ _ _ _ _ _ _ _ _ _ _ _ _ _ _ _ _ _ _ _ _ _ _ _ _ _ _ _ _ _ _ _ _ _ _ _ _ _ _ _ _ _ _ _ _ _ _ _ _ _ _ _ _ _ _ _ _ _ _ _ _ _ _ _ _ _ _ _ _ _ _ _ _ _ _ _ _ _ _ _ _ _ _ _ _ _ _ _ _ _ _ _ _ _ _ _ _ _ _ _ _ _ _ _ _ _ _ _ _ _ _ _ _ _ _ _ _ _ _ _ _ _ _ _ HC.out HOK.out HL.out HZ.out HBZ.out HPO.out
      | false =>
        cases d3 : (tol == 0) with
        | true =>
          go_upto_if 118 with fail
          refine wp_cond_false rfl (wp_skip ?_)
          rename_i hK
          refine hK _ _ ?_
          exact turns7 _ _ _ _ _ _ _ _ _ _ _ _ _ _ _ _ _ _ _ _ _ _ _ _ _ _ _ _ _ _ _ _ _ _ _ _ _ _ _ _ _ _ _ _ _ _ _ _ _ _ _ _ _ _ _ _ _ _ _ _ _ _ _ _ _ _ _ _ _ _ _ _ _ _ _ _ _ _ _ _ _ _ _ _ _ _ _ _ _ _ _ _ _ _ _ _ _ _ _ _ _ _ _ _ _ _ _ _ _ _ _ _ _ _ _ _ _ _ _ _ _ _ _ _ _ _ _ _ _ _ _ _ _ _ _ _ _ _ _ _ _ _ _ _ _ _ _ _ _ _ _ _ _ _ _ _ _ _ _ _ _ _ _ _ _ _ _ _ _ _ _ _ _ _ _ _ _ _ _ _ _ _ _ _ _ _ _ _ _ _ _ _ _ _ _ _ _ _ _ _ _ _ _ _ _ _ _ _ _ _ _ _ _ _ _ _ _ _ _ _ _ _ _ _ _ _ _ _ _ _ _ _ _ _ _ _ _ _ _ _ _ _ _ _ _ _ _ _ _ _ _ _ _ _ _ _ _ _ _ HC.out HOK.out HL.out HZ.out HBZ.out HPO.out
        | false =>
          go_upto_if 118 with fail
          refine wp_cond_false rfl (wp_skip ?_)
          rename_i hK
          refine hK _ _ ?_
          exact turns7 _ _ _ _ _ _ _ _ _ _ _ _ _ _ _ _ _ _ _ _ _ _ _ _ _ _ _ _ _ _ _ _ _ _ _ _ _ _ _ _ _ _ _ _ _ _ _ _ _ _ _ _ _ _ _ _ _ _ _ _ _ _ _ _ _ _ _ _ _ _ _ _ _ _ _ _ _ _ _ _ _ _ _ _ _ _ _ _ _ _ _ _ _ _ _ _ _ _ _ _ _ _ _ _ _ _ _ _ _ _ _ _ _ _ _ _ _ _ _ _ _ _ _ _ _ _ _ _ _ _ _ _ _ _ _ _ _ _ _ _ _ _ _ _ _ _ _ _ _ _ _ _ _ _ _ _ _ _ _ _ _ _ _ _ _ _ _ _ _ _ _ _ _ _ _ _ _ _ _ _ _ _ _ _ _ _ _ _ _ _ _ _ _ _ _ _ _ _ _ _ _ _ _ _ _ _ _ _ _ _ _ _ _ _ _ _ _ _ _ _ _ _ _ _ _ _ _ _ _ _ _ _ _ _ _ _ _ _ _ _ _ _ _ _ _ _ _ _ _ _ _ _ _ _ _ _ _ _ _ HC.out HOK.out HL.out HZ.out HBZ.out HPO.out
    | true =>
      have d2 := f2 rfl rfl
      cases d3 : (tol == 0) with
      | true =>
        have d4 := f3 rfl rfl d3
        clear f1 f2 f3
        go_upto_if 118 with fail
        refine wp_cond_false rfl (wp_skip ?_)
        rename_i hK
        refine hK _ _ ?_
        exact turns7 _ _ _ _ _ _ _ _ _ _ _ _ _ _ _ _ _ _ _ _ _ _ _ _ _ _ _ _ _ _ _ _ _ _ _ _ _ _ _ _ _ _ _ _ _ _ _ _ _ _ _ _ _ _ _ _ _ _ _ _ _ _ _ _ _ _ _ _ _ _ _ _ _ _ _ _ _ _ _ _ _ _ _ _ _ _ _ _ _ _ _ _ _ _ _ _ _ _ _ _ _ _ _ _ _ _ _ _ _ _ _ _ _ _ _ _ _ _ _ _ _ _ _ _ _ _ _ _ _ _ _ _ _ _ _ _ _ _ _ _ _ _ _ _ _ _ _ _ _ _ _ _ _ _ _ _ _ _ _ _ _ _ _ _ _ _ _ _ _ _ _ _ _ _ _ _ _ _ _ _ _ _ _ _ _ _ _ _ _ _ _ _ _ _ _ _ _ _ _ _ _ _ _ _ _ _ _ _ _ _ _ _ _ _ _ _ _ _ _ _ _ _ _ _ _ _ _ _ _ _ _ _ _ _ _ _ _ _ _ _ _ _ _ _ _ _ _ _ _ _ _ _ _ _ _ _ _ _ _ HC.out HOK.out HL.out HZ.out HBZ.out HPO.out
      | false =>
        clear f1 f2 f3
        go_upto_if 118 with fail
        refine wp_cond_false rfl (wp_skip ?_)
        rename_i hK
        refine hK _ _ ?_
        exact turns7 _ _ _ _ _ _ _ _ _ _ _ _ _ _ _ _ _ _ _ _ _ _ _ _ _ _ _ _ _ _ _ _ _ _ _ _ _ _ _ _ _ _ _ _ _ _ _ _ _ _ _ _ _ _ _ _ _ _ _ _ _ _ _ _ _ _ _ _ _ _ _ _ _ _ _ _ _ _ _ _ _ _ _ _ _ _ _ _ _ _ _ _ _ _ _ _ _ _ _ _ _ _ _ _ _ _ _ _ _ _ _ _ _ _ _ _ _ _ _ _ _ _ _ _ _ _ _ _ _ _ _ _ _ _ _ _ _ _ _ _ _ _ _ _ _ _ _ _ _ _ _ _ _ _ _ _ _ _ _ _ _ _ _ _ _ _ _ _ _ _ _ _ _ _ _ _ _ _ _ _ _ _ _ _ _ _ _ _ _ _ _ _ _ _ _ _ _ _ _ _ _ _ _ _ _ _ _ _ _ _ _ _ _ _ _ _ _ _ _ _ _ _ _ _ _ _ _ _ _ _ _ _ _ _ _ _ _ _ _ _ _ _ _ _ _ _ _ _ _ _ _ _ _ _ _ _ _ _ _ HC.out HOK.out HL.out HZ.out HBZ.out HPO.out
set_option maxHeartbeats 8000000 in
set_option maxRecDepth 1000000 in
theorem turns3 {W0 W : World} {zs : List ByteArray} {tol more : Int} {p q : Int} {x y z : Nt} {lx ly : List Lk} {n1 m1 : Int} {ok is : Bool} {sx sy nz : Nat} {A : Option Addr} {n ca : Nat} (u0 u1 u5 u8 u9 u10 u12 u17 u18 u19 u20 u21 u22 u23 u24 u25 u26 u27 u28 u29 u30 u31 u32 u33 u34 u35 u36 u37 u38 u39 u40 u41 u42 u43 u44 u45 u46 u47 u48 u49 u50 u51 u52 u53 u54 u55 u56 u57 u58 u59 u60 u61 u62 u63 u64 u65 u66 u67 u68 u69 u70 u71 u72 u73 u74 u75 u76 u77 u78 u79 u80 u81 u82 u83 u84 u85 u86 u87 u88 u89 u90 u91 u92 u93 u94 u95 u96 u97 u98 u99 u100 u101 u102 u103 u104 u105 u106 u107 u108 u109 u110 u111 u112 u113 u114 u115 u116 u117 u118 u119 u120 u121 u122 u123 u124 u125 u126 u127 u128 u129 u130 u131 u132 u133 u134 u135 u136 u137 u138 u139 u140 u141 u142 u143 u144 u145 u146 u147 u148 u149 u150 u151 u152 u153 u154 u155 u156 u157 u158 u159 u160 u161 u162 u163 u164 u165 u166 u167 u168 u169 u170 u171 u172 u173 u174 u175 u176 u177 u178 u179 u180 u181 u182 u183 u184 u185 u186 u187 u188 u189 u190 u191 u192 u193 u194 u195 u196 u197 u198 u199 u200 u201 u202 u203 u204 u205 u206 u207 u208 u209 u210 u211 u212 u213 u214 u215 u216 u217 u218 u219 u220 u221 u222 u223 u224 u225 u226 u227 u228 u229 u230 u231 u232 u233 u234 u235 u236 u237 u238 u239 u240 u241 u242 u243 u244 u245 u246 u247 u248 u249 u250 u251 u252 u253 u254 u255 u256 u257 u258 u259 u260 u261 u262 u263 u264 u265 : Value) {Φ : Ending → World → Prop}
    (C : TurnC W0 sx sy A n ca zs tol p q x y lx ly) (hok : (n1, ok) = fitE p q x y zs tol) (hmo : (m1, is) = fitE p q x y zs more) (hl : Below W0.heap.size W0 W) (hz : z.wf) (bz : W0.heap[nz]? = some (.cells (noteC z) 26 (0, 0)))
    (post : ∀ W', Below W0.heap.size W0 W' → Φ (.returned (.bool true)) W') :
    Code.wp Tryz.prog (turnsR 3) (bodyPost Tryz.prog Tryz.f3 Φ) ⟨#[u0, u1, .slice A n ca, .int .i64 tol, .int .i64 more, u5, .pointer (some ⟨sx, 0, none⟩), .pointer (some ⟨sy, 0, none⟩), u8, u9, u10, .pointer (some ⟨nz, 0, none⟩), u12, .int .i64 n1, .bool ok, .int .i64 m1, .bool is, u17, u18, u19, u20, u21, u22, u23, u24, u25, u26, u27, u28, u29, u30, u31, u32, u33, u34, u35, u36, u37, u38, u39, u40, u41, u42, u43, u44, u45, u46, u47, u48, u49, u50, u51, u52, u53, u54, u55, u56, u57, u58, u59, u60, u61, u62, u63, u64, u65, u66, u67, u68, u69, u70, u71, u72, u73, u74, u75, u76, u77, u78, u79, u80, u81, u82, u83, u84, u85, u86, u87, u88, u89, u90, u91, u92, u93, u94, u95, u96, u97, u98, u99, u100, u101, u102, u103, u104, u105, u106, u107, u108, u109, u110, u111, u112, u113, u114, u115, u116, u117, u118, u119, u120, u121, u122, u123, u124, u125, u126, u127, u128, u129, u130, u131, u132, u133, u134, u135, u136, u137, u138, u139, u140, u141, u142, u143, u144, u145, u146, u147, u148, u149, u150, u151, u152, u153, u154, u155, u156, u157, u158, u159, u160, u161, u162, u163, u164, u165, u166, u167, u168, u169, u170, u171, u172, u173, u174, u175, u176, u177, u178, u179, u180, u181, u182, u183, u184, u185, u186, u187, u188, u189, u190, u191, u192, u193, u194, u195, u196, u197, u198, u199, u200, u201, u202, u203, u204, u205, u206, u207, u208, u209, u210, u211, u212, u213, u214, u215, u216, u217, u218, u219, u220, u221, u222, u223, u224, u225, u226, u227, u228, u229, u230, u231, u232, u233, u234, u235, u236, u237, u238, u239, u240, u241, u242, u243, u244, u245, u246, u247, u248, u249, u250, u251, u252, u253, u254, u255, u256, u257, u258, u259, u260, u261, u262, u263, u264, u265], []⟩ W := by
  have HC := Lib.hid C
  have HL := Lib.hid hl
  have HOK := Lib.hid hok
  have HZ := Lib.hid hz
  have HBZ := Lib.hid bz
  have HPO := Lib.hid post
  have HW := Lib.hid (works_any W (C.hpw.below hl))
  have f1 : ok = false → (n1 != 0) = false := fun h => by
    have := fit_zero (p := p) (q := q) (x := x) (y := y) (zs := zs) (tol := tol) (by rw [← hok]; exact h)
    rw [← hok] at this
    simpa using this
  have f2 : ok = true → tol ≤ more → is = true ∧ (m1 != n1) = false := fun h h2 => by
    have := fit_more (p := p) (q := q) (x := x) (y := y) (zs := zs) (tol := tol) (more := more) (by rw [← hok]; exact h) h2
    rw [← hok, ← hmo] at this
    injection this with h3 h4
    rw [h3, h4]
    exact ⟨h, by simp⟩
  clear C hok hl post hz bz hmo
  conv => arg 2; whnf
  dsimp only
  cases ok with
  | false =>
    have d1 := f1 rfl
    clear f1 f2
    go_upto_if 79 with (go_at_call 8; go_loud ((with_reducible refine HW.out.mono ?_); rintro e w3 ⟨rfl, hb⟩; have HB3 := Lib.hid (bl_then HL.out hb); clear hb))
    refine wp_cond_false rfl (wp_skip ?_)
    rename_i hK
    refine hK _ _ ?_
    exact turns5 _ _ _ _ _ _ _ _ _ _ _ _ _ _ _ _ _ _ _ _ _ _ _ _ _ _ _ _ _ _ _ _ _ _ _ _ _ _ _ _ _ _ _ _ _ _ _ _ _ _ _ _ _ _ _ _ _ _ _ _ _ _ _ _ _ _ _ _ _ _ _ _ _ _ _ _ _ _ _ _ _ _ _ _ _ _ _ _ _ _ _ _ _ _ _ _ _ _ _ _ _ _ _ _ _ _ _ _ _ _ _ _ _ _ _ _ _ _ _ _ _ _ _ _ _ _ _ _ _ _ _ _ _ _ _ _ _ _ _ _ _ _ _ _ _ _ _ _ _ _ _ _ _ _ _ _ _ _ _ _ _ _ _ _ _ _ _ _ _ _ _ _ _ _ _ _ _ _ _ _ _ _ _ _ _ _ _ _ _ _ _ _ _ _ _ _ _ _ _ _ _ _ _ _ _ _ _ _ _ _ _ _ _ _ _ _ _ _ _ _ _ _ _ _ _ _ _ _ _ _ _ _ _ _ _ _ _ _ _ _ _ _ _ _ _ _ _ _ _ _ _ _ _ _ _ _ _ _ _ HC.out HOK.out HB3.out HZ.out HBZ.out HPO.out
  | true =>
    by_cases h : tol ≤ more
    · obtain ⟨h1, d2⟩ := f2 rfl h
      have d1 : decide (tol ≤ more) = true := by simp [h]
      subst h1
      clear f1 f2 h
      go_upto_if 79 with (go_at_call 8; go_loud ((with_reducible refine HW.out.mono ?_); rintro e w3 ⟨rfl, hb⟩; have HB3 := Lib.hid (bl_then HL.out hb); clear hb))
      refine wp_cond_false rfl (wp_skip ?_)
      rename_i hK
      refine hK _ _ ?_
      exact turns5 _ _ _ _ _ _ _ _ _ _ _ _ _ _ _ _ _ _ _ _ _ _ _ _ _ _ _ _ _ _ _ _ _ _ _ _ _ _ _ _ _ _ _ _ _ _ _ _ _ _ _ _ _ _ _ _ _ _ _ _ _ _ _ _ _ _ _ _ _ _ _ _ _ _ _ _ _ _ _ _ _ _ _ _ _ _ _ _ _ _ _ _ _ _ _ _ _ _ _ _ _ _ _ _ _ _ _ _ _ _ _ _ _ _ _ _ _ _ _ _ _ _ _ _ _ _ _ _ _ _ _ _ _ _ _ _ _ _ _ _ _ _ _ _ _ _ _ _ _ _ _ _ _ _ _ _ _ _ _ _ _ _ _ _ _ _ _ _ _ _ _ _ _ _ _ _ _ _ _ _ _ _ _ _ _ _ _ _ _ _ _ _ _ _ _ _ _ _ _ _ _ _ _ _ _ _ _ _ _ _ _ _ _ _ _ _ _ _ _ _ _ _ _ _ _ _ _ _ _ _ _ _ _ _ _ _ _ _ _ _ _ _ _ _ _ _ _ _ _ _ _ _ _ _ _ _ _ _ _ HC.out HOK.out HB3.out HZ.out HBZ.out HPO.out
    · have d1 : decide (tol ≤ more) = false := by simp [h]
      clear f1 f2 h
      go_upto_if 79 with (go_at_call 8; go_loud ((with_reducible refine HW.out.mono ?_); rintro e w3 ⟨rfl, hb⟩; have HB3 := Lib.hid (bl_then HL.out hb); clear hb))
      refine wp_cond_false rfl (wp_skip ?_)
      rename_i hK
      refine hK _ _ ?_
      exact turns5 _ _ _ _ _ _ _ _ _ _ _ _ _ _ _ _ _ _ _ _ _ _ _ _ _ _ _ _ _ _ _ _ _ _ _ _ _ _ _ _ _ _ _ _ _ _ _ _ _ _ _ _ _ _ _ _ _ _ _ _ _ _ _ _ _ _ _ _ _ _ _ _ _ _ _ _ _ _ _ _ _ _ _ _ _ _ _ _ _ _ _ _ _ _ _ _ _ _ _ _ _ _ _ _ _ _ _ _ _ _ _ _ _ _ _ _ _ _ _ _ _ _ _ _ _ _ _ _ _ _ _ _ _ _ _ _ _ _ _ _ _ _ _ _ _ _ _ _ _ _ _ _ _ _ _ _ _ _ _ _ _ _ _ _ _ _ _ _ _ _ _ _ _ _ _ _ _ _ _ _ _ _ _ _ _ _ _ _ _ _ _ _ _ _ _ _ _ _ _ _ _ _ _ _ _ _ _ _ _ _ _ _ _ _ _ _ _ _ _ _ _ _ _ _ _ _ _ _ _ _ _ _ _ _ _ _ _ _ _ _ _ _ _ _ _ _ _ _ _ _ _ _ _ _ _ _ _ _ _ HC.out HOK.out HB3.out HZ.out HBZ.out HPO.out
end Go.Proofs.YtphabkaiheplpaaGreatDoor
