/- Joined texts of this proof: TuV. -/
import Derived.Outline
import Derived.Test.YtphabkaiheplpaaGreatDoorTurns45
/- MatchTurns from its condition on the amounts on: the changed sides. -/
set_option linter.unusedVariables false
set_option linter.unusedSimpArgs false
set_option maxRecDepth 100000
namespace Go.Proofs.YtphabkaiheplpaaGreatDoor
open Go.RowKit Go.Shelf

def turnX (x z : Nt) : Nt := { x with ref := z.ref, prev := z.prev, priority := z.priority, la := z.la, ln := z.ln, lc := z.lc }
def turnY (y z : Nt) : Nt := { y with amount := z.amount, currency := z.currency }
theorem turnX_wf {x z : Nt} (h : x.wf) (k : z.wf) : (turnX x z).wf := ⟨k.ref, k.prev, k.priority, h.trade, h.settle, h.code, h.qty, h.account, h.agent, h.other, h.amount, h.currency⟩
theorem turnY_wf {y z : Nt} (h : y.wf) (k : z.wf) : (turnY y z).wf := ⟨h.ref, h.prev, h.priority, h.trade, h.settle, h.code, h.qty, h.account, h.agent, h.other, k.amount, k.currency⟩
theorem turnX_cells (p : Int) (x z : Nt) : ((((sideC p x).setIfInBounds 1 (.string z.ref)).setIfInBounds 2 (.string z.prev)).setIfInBounds 26 (.int .i64 z.priority)).setIfInBounds 27 (.slice z.la z.ln z.lc) = sideC p (turnX x z) := by kernel_rfl
theorem turnY_cells (p : Int) (y z : Nt) : ((sideC p y).setIfInBounds 24 (.int .i64 z.amount)).setIfInBounds 25 (.string z.currency) = sideC p (turnY y z) := by kernel_rfl
theorem turn_step {W0 W : World} {g : Nat} {C : Array Value} {T : TypeId} (k : Nat) (v : Value) (hb : Below W0.heap.size W0 W) (hge : W0.heap.size ≤ g) (hg : W.heap[g]? = some (.cells C T (0, 0))) : Below W0.heap.size W0 (W.setCell ⟨g, k, none⟩ v) ∧ (W.setCell ⟨g, k, none⟩ v).heap[g]? = some (.cells (C.setIfInBounds k v) T (0, 0)) :=
  ⟨hb.setCell hge v, heap_setCell_same W g k C T v hg⟩
theorem set_other {C : Array Value} {k j : Nat} {v u : Value} (h : C[j]? = some u) (hne : k ≠ j) : (C.setIfInBounds k v)[j]? = some u := by
  rw [Array.getElem?_setIfInBounds_ne hne]; exact h
theorem side_made {W : World} {S Z : Array Value} {T : TypeId} {motive : World → Prop} (h : ∀ W1 : World, Below W.heap.size W W1 → W1.heap[W.heap.size]? = some (.cells S T (0, 0)) → motive W1) : motive ((W.alloc (.cells Z T)).setRow W.heap.size S) :=
  h _ (bl_setRow (bl_alloc (bl_refl W) _) (Nat.le_refl _) _) (setRow_heap _ _ _ _ _ _ (heap_alloc_new W _))
set_option maxHeartbeats 8000000 in
set_option maxRecDepth 1000000 in
theorem turns7 {W0 W : World} {zs : List ByteArray} {tol : Int} {p q : Int} {x y z : Nt} {lx ly : List Lk} {n1 : Int} {ok : Bool} {sx sy nz : Nat} {A : Option Addr} {n ca : Nat} (u0 u1 u4 u5 u8 u9 u10 u12 u15 u16 u17 u18 u19 u20 u21 u22 u23 u24 u25 u26 u27 u28 u29 u30 u31 u32 u33 u34 u35 u36 u37 u38 u39 u40 u41 u42 u43 u44 u45 u46 u47 u48 u49 u50 u51 u52 u53 u54 u55 u56 u57 u58 u59 u60 u61 u62 u63 u64 u65 u66 u67 u68 u69 u70 u71 u72 u73 u74 u75 u76 u77 u78 u79 u80 u81 u82 u83 u84 u85 u86 u87 u88 u89 u90 u91 u92 u93 u94 u95 u96 u97 u98 u99 u100 u101 u102 u103 u104 u105 u106 u107 u108 u109 u110 u111 u112 u113 u114 u115 u116 u117 u118 u119 u120 u121 u122 u123 u124 u125 u126 u127 u128 u129 u130 u131 u132 u133 u134 u135 u136 u137 u138 u139 u140 u141 u142 u143 u144 u145 u146 u147 u148 u149 u150 u151 u152 u153 u154 u155 u156 u157 u158 u159 u160 u161 u162 u163 u164 u165 u166 u167 u168 u169 u170 u171 u172 u173 u174 u175 u176 u177 u178 u179 u180 u181 u182 u183 u184 u185 u186 u187 u188 u189 u190 u191 u192 u193 u194 u195 u196 u197 u198 u199 u200 u201 u202 u203 u204 u205 u206 u207 u208 u209 u210 u211 u212 u213 u214 u215 u216 u217 u218 u219 u220 u221 u222 u223 u224 u225 u226 u227 u228 u229 u230 u231 u232 u233 u234 u235 u236 u237 u238 u239 u240 u241 u242 u243 u244 u245 u246 u247 u248 u249 u250 u251 u252 u253 u254 u255 u256 u257 u258 u259 u260 u261 u262 u263 u264 u265 : Value) {Φ : Ending → World → Prop}
    (C : TurnC W0 sx sy A n ca zs tol p q x y lx ly) (hok : (n1, ok) = fitE p q x y zs tol) (hl : Below W0.heap.size W0 W) (hz : z.wf) (bz : W0.heap[nz]? = some (.cells (noteC z) 26 (0, 0)))
    (post : ∀ W', Below W0.heap.size W0 W' → Φ (.returned (.bool true)) W') :
    Code.wp Tryz.prog (turnsR 7) (bodyPost Tryz.prog Tryz.f3 Φ) ⟨#[u0, u1, .slice A n ca, .int .i64 tol, u4, u5, .pointer (some ⟨sx, 0, none⟩), .pointer (some ⟨sy, 0, none⟩), u8, u9, u10, .pointer (some ⟨nz, 0, none⟩), u12, .int .i64 n1, .bool ok, u15, u16, u17, u18, u19, u20, u21, u22, u23, u24, u25, u26, u27, u28, u29, u30, u31, u32, u33, u34, u35, u36, u37, u38, u39, u40, u41, u42, u43, u44, u45, u46, u47, u48, u49, u50, u51, u52, u53, u54, u55, u56, u57, u58, u59, u60, u61, u62, u63, u64, u65, u66, u67, u68, u69, u70, u71, u72, u73, u74, u75, u76, u77, u78, u79, u80, u81, u82, u83, u84, u85, u86, u87, u88, u89, u90, u91, u92, u93, u94, u95, u96, u97, u98, u99, u100, u101, u102, u103, u104, u105, u106, u107, u108, u109, u110, u111, u112, u113, u114, u115, u116, u117, u118, u119, u120, u121, u122, u123, u124, u125, u126, u127, u128, u129, u130, u131, u132, u133, u134, u135, u136, u137, u138, u139, u140, u141, u142, u143, u144, u145, u146, u147, u148, u149, u150, u151, u152, u153, u154, u155, u156, u157, u158, u159, u160, u161, u162, u163, u164, u165, u166, u167, u168, u169, u170, u171, u172, u173, u174, u175, u176, u177, u178, u179, u180, u181, u182, u183, u184, u185, u186, u187, u188, u189, u190, u191, u192, u193, u194, u195, u196, u197, u198, u199, u200, u201, u202, u203, u204, u205, u206, u207, u208, u209, u210, u211, u212, u213, u214, u215, u216, u217, u218, u219, u220, u221, u222, u223, u224, u225, u226, u227, u228, u229, u230, u231, u232, u233, u234, u235, u236, u237, u238, u239, u240, u241, u242, u243, u244, u245, u246, u247, u248, u249, u250, u251, u252, u253, u254, u255, u256, u257, u258, u259, u260, u261, u262, u263, u264, u265], []⟩ W := by
  have HC := Lib.hid C
  have HL := Lib.hid hl
  have HOK := Lib.hid hok
  have HZ := Lib.hid hz
  have HPO := Lib.hid post
  have CN := Lib.hid (fun W (h : Below W0.heap.size W0 W) (k : Nat) => cell_of_row W nz k _ _ _ (blk_none bz (gb_below h)))
  have CX := Lib.hid (fun W (h : Below W0.heap.size W0 W) (k : Nat) => cell_of_row W sx k _ _ _ (blk_none C.bx (gb_below h)))
  have LX := Lib.hid (fun W (h : Below W0.heap.size W0 W) => load_side p x W sx _ (blk_none C.bx (gb_below h)))
  have LY := Lib.hid (fun W (h : Below W0.heap.size W0 W) => load_side q y W sy _ (blk_none C.by_ (gb_below h)))
  have FITN := Lib.hid (fun W (h : Below W0.heap.size W0 W) => fit_any p q (turnX x z) y A n ca zs tol W C.hp C.hq (turnX_wf C.hx hz) C.hy C.ht (C.hrt.below h) C.hsh (by have := C.hnn; omega) (C.hpw.below h))
  have FITP := Lib.hid (fun W (h : Below W0.heap.size W0 W) => fit_any p q (turnX x z) (turnY y z) A n ca zs tol W C.hp C.hq (turnX_wf C.hx hz) (turnY_wf C.hy hz) C.ht (C.hrt.below h) C.hsh (by have := C.hnn; omega) (C.hpw.below h))
  have EN : Hid (fitE p q (turnX x z) y zs tol = (n1, ok)) := Lib.hid hok.symm
  have EP : Hid (x.pay = false → fitE p q (turnX x z) (turnY y z) zs tol = (n1, ok)) := Lib.hid (fun h => by rw [hok]; exact fit_blind2 p q (turnX x z) y zs tol z.amount z.currency h)
  clear C hok hl hz post bz
  have KX := Lib.hid (show (sideC p x)[1]? = some (.string x.ref) ∧ (sideC p x)[2]? = some (.string x.prev) ∧ (sideC p x)[26]? = some (.int .i64 x.priority) ∧ (sideC p x)[27]? = some (.slice x.la x.ln x.lc) ∧ (sideC p x)[5]? = some (.bool x.pay) ∧ (sideC p x).size = 28 ∧ (sideC p x).all (·.oneCell') = true from ⟨rfl, rfl, rfl, rfl, rfl, rfl, sideC_one p x⟩)
  have KY := Lib.hid (show (sideC q y)[24]? = some (.int .i64 y.amount) ∧ (sideC q y)[25]? = some (.string y.currency) ∧ (sideC q y).size = 28 ∧ (sideC q y).all (·.oneCell') = true from ⟨rfl, rfl, rfl, sideC_one q y⟩)
  have KZ := Lib.hid (show (noteC z)[0]? = some (.string z.ref) ∧ (noteC z)[1]? = some (.string z.prev) ∧ (noteC z)[25]? = some (.int .i64 z.priority) ∧ (noteC z)[26]? = some (.slice z.la z.ln z.lc) ∧ (noteC z)[23]? = some (.int .i64 z.amount) ∧ (noteC z)[24]? = some (.string z.currency) from ⟨rfl, rfl, rfl, rfl, rfl, rfl⟩)
  have TX := Lib.hid (turnX_cells p x z)
  have TY := Lib.hid (turnY_cells q y z)
  rw [sideV_agg, sideV_agg] at FITN FITP
  obtain ⟨SX, hSX⟩ : ∃ S, S = sideC p x := ⟨_, rfl⟩
  obtain ⟨SY, hSY⟩ : ∃ S, S = sideC q y := ⟨_, rfl⟩
  obtain ⟨SZ, hSZ⟩ : ∃ S, S = noteC z := ⟨_, rfl⟩
  rw [← hSX] at LX KX TX CX
  rw [← hSY] at LY KY TY FITN
  rw [← hSZ] at KZ CN
  have HSY := Lib.hid hSY
  clear hSX hSY hSZ
  conv => arg 2; whnf
  dsimp only
  have L1 := Lib.hid (LX.out W HL.out)
  have S1 := Lib.hid (fun (Z : Array Value) (hz : Z.size = 28) => store_side Z SX (W.alloc (.cells Z 28)) W.heap.size 28 (heap_alloc_new W _) hz KX.out.2.2.2.2.2.1 KX.out.2.2.2.2.2.2)
  go_upto_region 8 with (first | (refine wpList_load_known rfl 28 (.tmp 6) rfl ⟨sx, 0, none⟩ (.agg SX) rfl L1.out ?_) | (refine wpList_store_plain rfl rfl 28 (.tmp 17) (.tmp 119) rfl ⟨W.heap.size, 0, none⟩ (.agg SX) rfl rfl (S1.out _ rfl) ?_))
  clear L1 S1
  refine side_made (motive := fun W => Code.wp _ _ _ _ W) ?_
  intro W1 hb1 hg1
  have T1 := Lib.hid (And.intro (bl_then HL.out hb1) hg1)
  have GE : Hid (W0.heap.size ≤ W.heap.size) := Lib.hid HL.out.size
  clear hb1 hg1
  generalize W.heap.size = gx at T1 GE ⊢
  clear HL
  have c1 : W1.cell? ⟨nz, 0, none⟩ = some (.string z.ref) := (CN.out W1 T1.out.1 0).trans KZ.out.1
  have o1 : W1.cell? ⟨gx, 1, none⟩ = some (.string x.ref) := (cell_of_row W1 gx 1 _ _ _ T1.out.2).trans (KX.out.1)
  have f1 : W1.frozen? ⟨gx, 1, none⟩ = false := row_free T1.out.2 1
  go_upto_region 9 with fail
  have T2 := Lib.hid (turn_step 1 (.string z.ref) T1.out.1 GE.out T1.out.2)
  clear c1 o1 f1 T1
  generalize W1.setCell ⟨gx, 1, none⟩ (.string z.ref) = W2 at T2 ⊢
  have c1 : W2.cell? ⟨nz, 1, none⟩ = some (.string z.prev) := (CN.out W2 T2.out.1 1).trans KZ.out.2.1
  have o1 : W2.cell? ⟨gx, 2, none⟩ = some (.string x.prev) := (cell_of_row W2 gx 2 _ _ _ T2.out.2).trans (set_other KX.out.2.1 (by decide))
  have f1 : W2.frozen? ⟨gx, 2, none⟩ = false := row_free T2.out.2 2
  go_upto_region 10 with fail
  have T3 := Lib.hid (turn_step 2 (.string z.prev) T2.out.1 GE.out T2.out.2)
  clear c1 o1 f1 T2
  generalize W2.setCell ⟨gx, 2, none⟩ (.string z.prev) = W3 at T3 ⊢
  have c1 : W3.cell? ⟨nz, 25, none⟩ = some (.int .i64 z.priority) := (CN.out W3 T3.out.1 25).trans KZ.out.2.2.1
  have o1 : W3.cell? ⟨gx, 26, none⟩ = some (.int .i64 x.priority) := (cell_of_row W3 gx 26 _ _ _ T3.out.2).trans (set_other (set_other KX.out.2.2.1 (by decide)) (by decide))
  have f1 : W3.frozen? ⟨gx, 26, none⟩ = false := row_free T3.out.2 26
  go_upto_region 11 with fail
  have T4 := Lib.hid (turn_step 26 (.int .i64 z.priority) T3.out.1 GE.out T3.out.2)
  clear c1 o1 f1 T3
  generalize W3.setCell ⟨gx, 26, none⟩ (.int .i64 z.priority) = W4 at T4 ⊢
  have c1 : W4.cell? ⟨nz, 26, none⟩ = some (.slice z.la z.ln z.lc) := (CN.out W4 T4.out.1 26).trans KZ.out.2.2.2.1
  have o1 : W4.cell? ⟨gx, 27, none⟩ = some (.slice x.la x.ln x.lc) := (cell_of_row W4 gx 27 _ _ _ T4.out.2).trans (set_other (set_other (set_other KX.out.2.2.2.1 (by decide)) (by decide)) (by decide))
  have f1 : W4.frozen? ⟨gx, 27, none⟩ = false := row_free T4.out.2 27
  go_upto_region 12 with fail
  have T5 := Lib.hid (turn_step 27 (.slice z.la z.ln z.lc) T4.out.1 GE.out T4.out.2)
  clear c1 o1 f1 T4
  generalize W4.setCell ⟨gx, 27, none⟩ (.slice z.la z.ln z.lc) = W5 at T5 ⊢
  rw [TX.out] at T5
  clear TX
  have L2 := Lib.hid (LY.out W5 T5.out.1)
  have S2 := Lib.hid (fun (Z : Array Value) (hz : Z.size = 28) => store_side Z SY (W5.alloc (.cells Z 28)) W5.heap.size 28 (heap_alloc_new W5 _) hz KY.out.2.2.1 KY.out.2.2.2)
  go_upto_region 13 with (first | (refine wpList_load_known rfl 28 (.tmp 7) rfl ⟨sy, 0, none⟩ (.agg SY) rfl L2.out ?_) | (refine wpList_store_plain rfl rfl 28 (.tmp 18) (.tmp 136) rfl ⟨W5.heap.size, 0, none⟩ (.agg SY) rfl rfl (S2.out _ rfl) ?_))
  clear L2 S2
  refine side_made (motive := fun W => Code.wp _ _ _ _ W) ?_
  intro W6 hb1 hg1
  have T6 : Hid (Below W0.heap.size W0 W6 ∧ W6.heap[W5.heap.size]? = some (.cells SY 28 (0, 0)) ∧ W6.heap[gx]? = some (.cells (sideC p (turnX x z)) 28 (0, 0)) ∧ W0.heap.size ≤ W5.heap.size ∧ gx ≠ W5.heap.size) := Lib.hid ⟨bl_then T5.out.1 hb1, hg1, blk_none T5.out.2 (gb_below hb1), T5.out.1.size, Nat.ne_of_lt (Array.getElem?_eq_some_iff.1 T5.out.2).1⟩
  clear hb1 hg1 T5 GE
  generalize W5.heap.size = gy at T6 ⊢
  have cp : W6.cell? ⟨sx, 5, none⟩ = some (.bool x.pay) := (CX.out W6 T6.out.1 5).trans KX.out.2.2.2.2.1
  cases hpay : x.pay with
  | true =>
    rw [hpay] at cp
    go_upto_if 140 with fail
    refine wp_cond_false rfl (wp_skip ?_)
    rename_i hK
    refine hK _ _ ?_
    exact turns16 (SX := sideC p (turnX x z)) (SY := SY) _ _ _ _ _ _ _ _ _ _ _ _ _ _ _ _ _ _ _ _ _ _ _ _ _ _ _ _ _ _ _ _ _ _ _ _ _ _ _ _ _ _ _ _ _ _ _ _ _ _ _ _ _ _ _ _ _ _ _ _ _ _ _ _ _ _ _ _ _ _ _ _ _ _ _ _ _ _ _ _ _ _ _ _ _ _ _ _ _ _ _ _ _ _ _ _ _ _ _ _ _ _ _ _ _ _ _ _ _ _ _ _ _ _ _ _ _ _ _ _ _ _ _ _ _ _ _ _ _ _ _ _ _ _ _ _ _ _ _ _ _ _ _ _ _ _ _ _ _ _ _ _ _ _ _ _ _ _ _ _ _ _ _ _ _ _ _ _ _ _ _ _ _ _ _ _ _ _ _ _ _ _ _ _ _ _ _ _ _ _ _ _ _ _ _ _ _ _ _ _ _ _ _ _ _ _ _ _ _ _ _ _ _ _ _ _ _ _ _ _ _ _ _ _ _ _ _ _ _ _ _ _ _ _ _ _ _ _ _ _ _ _ _ _ _ _ _ _ _ _ _ _ _ _ _ _ _ _ HC.out HOK.out T6.out.1 (load_side p (turnX x z) W6 gx _ T6.out.2.2.1) (by have := load_side q y W6 gy _ (by rw [← HSY.out]; exact T6.out.2.1); rwa [← HSY.out] at this) (by have := FITN.out W6 T6.out.1; rw [EN.out] at this; exact this) HPO.out
  | false =>
    rw [hpay] at cp
    go_upto_if 140 with fail
    refine wp_cond_true rfl ?_
    rename_i hK
    have HK := Lib.hid hK
    clear hK
    have c1 : W6.cell? ⟨nz, 23, none⟩ = some (.int .i64 z.amount) := (CN.out W6 T6.out.1 23).trans KZ.out.2.2.2.2.1
    have o1 : W6.cell? ⟨gy, 24, none⟩ = some (.int .i64 y.amount) := (cell_of_row W6 gy 24 _ _ _ T6.out.2.1).trans KY.out.1
    have f1 : W6.frozen? ⟨gy, 24, none⟩ = false := row_free T6.out.2.1 24
    go_upto_region 15 with fail
    have T7 := Lib.hid (turn_step 24 (.int .i64 z.amount) T6.out.1 T6.out.2.2.2.1 T6.out.2.1)
    have G7 := Lib.hid (blk_ne T6.out.2.2.1 T6.out.2.2.2.2 (gb_cell W6 ⟨gy, 24, none⟩ (.int .i64 z.amount)))
    clear c1 o1 f1 cp
    generalize W6.setCell ⟨gy, 24, none⟩ (.int .i64 z.amount) = W7 at T7 G7 ⊢
    have c1 : W7.cell? ⟨nz, 24, none⟩ = some (.string z.currency) := (CN.out W7 T7.out.1 24).trans KZ.out.2.2.2.2.2
    have o1 : W7.cell? ⟨gy, 25, none⟩ = some (.string y.currency) := (cell_of_row W7 gy 25 _ _ _ T7.out.2).trans (set_other KY.out.2.1 (by decide))
    have f1 : W7.frozen? ⟨gy, 25, none⟩ = false := row_free T7.out.2 25
    go_wp2
    have T8 := Lib.hid (turn_step 25 (.string z.currency) T7.out.1 T6.out.2.2.2.1 T7.out.2)
    have G8 := Lib.hid (blk_ne G7.out T6.out.2.2.2.2 (gb_cell W7 ⟨gy, 25, none⟩ (.string z.currency)))
    clear c1 o1 f1
    generalize W7.setCell ⟨gy, 25, none⟩ (.string z.currency) = W8 at T8 G8 ⊢
    rw [TY.out] at T8
    refine HK.out _ _ ?_
    exact turns16 (SX := sideC p (turnX x z)) (SY := sideC q (turnY y z)) _ _ _ _ _ _ _ _ _ _ _ _ _ _ _ _ _ _ _ _ _ _ _ _ _ _ _ _ _ _ _ _ _ _ _ _ _ _ _ _ _ _ _ _ _ _ _ _ _ _ _ _ _ _ _ _ _ _ _ _ _ _ _ _ _ _ _ _ _ _ _ _ _ _ _ _ _ _ _ _ _ _ _ _ _ _ _ _ _ _ _ _ _ _ _ _ _ _ _ _ _ _ _ _ _ _ _ _ _ _ _ _ _ _ _ _ _ _ _ _ _ _ _ _ _ _ _ _ _ _ _ _ _ _ _ _ _ _ _ _ _ _ _ _ _ _ _ _ _ _ _ _ _ _ _ _ _ _ _ _ _ _ _ _ _ _ _ _ _ _ _ _ _ _ _ _ _ _ _ _ _ _ _ _ _ _ _ _ _ _ _ _ _ _ _ _ _ _ _ _ _ _ _ _ _ _ _ _ _ _ _ _ _ _ _ _ _ _ _ _ _ _ _ _ _ _ _ _ _ _ _ _ _ _ _ _ _ _ _ _ _ _ _ _ _ _ _ _ _ _ _ _ _ _ _ _ _ _ HC.out HOK.out T8.out.1 (load_side p (turnX x z) W8 gx _ G8.out) (load_side q (turnY y z) W8 gy _ T8.out.2) (by have := FITP.out W8 T8.out.1; rw [EP.out hpay] at this; exact this) HPO.out
end Go.Proofs.YtphabkaiheplpaaGreatDoor
