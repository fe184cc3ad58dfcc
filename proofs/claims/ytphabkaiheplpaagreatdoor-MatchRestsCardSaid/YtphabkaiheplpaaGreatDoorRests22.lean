/- Joined texts of this proof: BkA15. -/
import Derived.Outline
import Derived.Test.YtphabkaiheplpaaGreatDoorRests21
/- (*match.Book).Add from its number on. -/
set_option linter.unusedVariables false
set_option linter.unusedSimpArgs false
set_option maxRecDepth 100000
namespace Go.Proofs.YtphabkaiheplpaaGreatDoor
open Go.RowKit Go.Shelf Go.Maps
open Go.ChangeMaps (setBlock)

theorem cell_map {W W1 : World} {m : Nat} {kv : List (Value × Value)} (hm : MapIs W m kv) (hs : W.grownBy W1 (some m)) {a : Addr} {v : Value} (h : W.cell? a = some v) : W1.cell? a = some v := by
  have hne : a.block ≠ m := fun e => by
    obtain ⟨es, cl, h1, _⟩ := hm
    unfold World.cell? at h
    rw [e, h1] at h
    cases h
  have hlt : a.block < W.heap.size := by
    by_cases hl : a.block < W.heap.size
    · exact hl
    · exfalso
      unfold World.cell? at h
      rw [Array.getElem?_eq_none (by omega)] at h
      cases h
  unfold World.cell? at h ⊢
  rw [hs.block a.block hlt (by simpa using hne)]
  exact h
theorem RdL.map_ {W W1 : World} {m : Nat} {kv : List (Value × Value)} (hm : MapIs W m kv) (hs : W.grownBy W1 (some m)) {A : Option Addr} {n : Nat} {lx : List Lk} (h : RdL W A n lx) : RdL W1 A n lx :=
  ⟨h.1, fun i hi => by
    obtain ⟨ad, e, h1, h2⟩ := h.2 i hi
    exact ⟨ad, e, cell_map hm hs h1, cell_map hm hs h2⟩⟩
theorem entC_one (e : Ent) : ∀ u ∈ entC e, u.oneCell' = true := by
  intro u hu
  simp only [entC, List.mem_append] at hu
  rcases hu with hu | hu
  · have := sideC_one e.p e.x
    rw [Array.all_eq_true_iff_forall_mem] at this
    exact this u (by simpa using hu)
  · simp at hu
    rcases hu with rfl | rfl | rfl <;> rfl
theorem cells_arr {W : World} {g : Nat} {xs : List Value} {T : TypeId} (h : W.heap[g]? = some (.cells xs.toArray T (0, 0))) : ∀ j u, xs[j]? = some u → W.cell? ((⟨g, 0, none⟩ : Addr).add j) = some u := by
  intro j u hj
  rw [Addr.add_lit, Nat.zero_add, cell_of_row W g j _ _ _ h]
  simpa using hj
theorem own_ents {W : World} {v : Value} {es : List Ent} {e : Ent} (h : W.ownsRow 0 93 31 v (es.length + 1) (es.flatMap entC ++ entC e)) : W.ownsRow 0 93 31 v (es ++ [e]).length ((es ++ [e]).flatMap entC) := by
  rw [show (es ++ [e]).flatMap entC = es.flatMap entC ++ entC e by simp, List.length_append]
  exact h
/-- The table of powers is not of the footprint. -/
def PowFree (F : Nat → Prop) : Prop := ∀ g, Tryz.prog.globalNamed "internal/strconv.uint64pow10" = some g → ¬ F g
theorem pow_low {F : Nat → Prop} {w W : World} (h : PowT w) (hF : PowFree F) (hl : Fr F w W) : PowT W := by
  unfold PowT Lib.TabIs World.var? at h ⊢
  cases hg : Tryz.prog.globalNamed "internal/strconv.uint64pow10" with
  | none => rw [hg] at h; cases h
  | some g =>
    rw [hg] at h
    simp only [Option.bind_some] at h ⊢
    rw [hl.block g ?_ (hF g hg)]
    · exact h
    · by_cases hlt : g < w.heap.size
      · exact hlt
      · exfalso
        rw [Array.getElem?_eq_none (by omega)] at h
        cases h
noncomputable def tail15 : Code := ((Tryz.f10.body.bind (fromR 15)).getD .skip)
def entN (p : Int) (x : Nt) (lx : List Lk) (la : Option Addr) (lc : Nat) : Ent := ⟨p, { x with la := la, lc := lc }, lx, -1, false, false⟩
theorem slice_entN (p : Int) (x : Nt) (lx : List Lk) (la : Option Addr) (lc : Nat) (w : World) : (Instr.buildSlice 79 1 #[(0, .agg (entC (entN p x lx la lc)).toArray)]).run Tryz.prog w = .ok (.slice (some ⟨w.heap.size, 0, none⟩) 1 1) (w.alloc (.cells (entC (entN p x lx la lc)).toArray 93)) := slice_entry p { x with la := la, lc := lc } lx w
theorem ents_rows {W : World} {base : Nat} {es : List Ent} {p : Int} {x : Nt} {lx : List Lk} {la : Option Addr} {lc : Nat} (h : ∀ e ∈ es, W.ownsRow 0 112 2 (.slice e.x.la e.x.ln e.x.lc) e.x.ln (lks e.lx)) (hn : W.ownsRow base 112 2 (.slice la x.ln lc) x.ln (lks lx)) :
    ∀ e ∈ es ++ [entN p x lx la lc], W.ownsRow 0 112 2 (.slice e.x.la e.x.ln e.x.lc) e.x.ln (lks e.lx) := fun e he => by
  rcases List.mem_append.1 he with he | he
  · exact h e he
  · obtain rfl := List.mem_singleton.1 he
    exact own_low hn (Nat.zero_le _)
theorem ents_inF {F : Nat → Prop} {B : Nat} {W : World} {base : Nat} {es : List Ent} {p : Int} {x : Nt} {lx : List Lk} {la : Option Addr} {lc : Nat} (h : ∀ e ∈ es, ∀ a, e.x.la = some a → inF F B a.block) (hn : W.ownsRow base 112 2 (.slice la x.ln lc) x.ln (lks lx)) (hb : B ≤ base) :
    ∀ e ∈ es ++ [entN p x lx la lc], ∀ a, e.x.la = some a → inF F B a.block := fun e he a ha => by
  rcases List.mem_append.1 he with he | he
  · exact h e he a ha
  · obtain rfl := List.mem_singleton.1 he
    have ha2 : la = some a := ha
    subst ha2
    rcases hn.2 with ⟨e1, _⟩ | ⟨g, cap, cur, e1, h2, _⟩
    · cases e1
    · injection e1 with e1 _ _
      obtain rfl := Option.some.inj e1
      exact .inr (Nat.le_trans hb h2)
theorem side_ne {W : World} {b sb : Nat} {C D : Array Value} (h : W.heap[sb]? = some (.cells D 28 (0, 0))) (hb : W.heap[b]? = some (.cells C 82 (0, 0))) : sb ≠ b := fun e => by
  rw [e, hb] at h
  injection h with h
  injection h with _ h _
  exact absurd h (by decide)
theorem ents_ok {zs : List ByteArray} {es : List Ent} {ps : List Pr} {p : Int} {x : Nt} {lx : List Lk} (h : StOk zs es ps) (hx : x.wf) (hp : I64 p) (la : Option Addr) (lc : Nat) : ∀ e ∈ es ++ [entN p x lx la lc], EntOk e := fun e he => by
  rcases List.mem_append.1 he with he | he
  · exact ⟨(h.ent e he).1, (h.ent e he).2.1⟩
  · obtain rfl := List.mem_singleton.1 he
    exact ⟨⟨hx.ref, hx.prev, hx.priority, hx.trade, hx.settle, hx.code, hx.qty, hx.account, hx.agent, hx.other, hx.amount, hx.currency⟩, hp⟩
set_option maxHeartbeats 8000000 in
set_option maxRecDepth 1000000 in
theorem add_tail15 {F : Nat → Prop} {w W : World} {b sb : Nat} {tv ev pv : Value} {m1 m2 : Nat} {ws : List Wq} {zs : List ByteArray} {tol : Int} {es : List Ent} {ps : List Pr} {p : Int} {x : Nt} {lx : List Lk} (u1 u2 u4 u5 u6 u7 u8 u9 u10 u11 u12 u13 u14 u15 u16 u17 u18 u19 u20 u21 u22 u23 u24 u25 u26 u27 u28 u29 u30 u31 u32 u33 u34 u35 u36 u37 u38 u39 u40 u41 u42 u43 u44 u45 u46 u47 u48 u49 u50 u51 u52 u53 u54 u55 u56 u57 u58 u59 u60 u61 u62 u63 u64 u65 u66 u67 u68 u69 u70 u71 u72 u73 u74 u75 u76 u77 u78 u79 u80 u81 u82 u83 u84 u85 u86 u87 u88 u89 u90 u91 u92 u93 u94 u95 u96 u97 u98 u99 u100 u101 u102 u103 u104 u105 u106 u107 u108 u109 u110 u111 u112 u113 u114 u115 u116 u117 u118 u119 u120 u121 u122 u123 u124 u125 u126 u127 u128 u129 u130 u131 u132 u133 u134 u135 u136 u137 u138 u139 u140 u141 u142 u143 u144 u145 u146 u147 u148 u149 u150 u151 u152 u153 u154 u155 u156 u157 u158 u159 u160 u161 u162 u163 u164 u165 u166 u167 u168 u169 u170 u171 u172 u173 u174 u175 u176 u177 u178 u179 u180 u181 u182 u183 u184 u185 u186 u187 u188 u189 u190 u191 u192 u193 u194 u195 u196 u197 u198 u199 u200 u201 u202 u203 u204 u205 u206 u207 u208 u209 u210 u211 u212 u213 u214 u215 u216 u217 u218 u219 u220 u221 u222 u223 u224 u225 u226 u227 : Value) {Φ : Ending → World → Prop}
    (HM : BkM F w W b tv ev pv m1 m2 (ws.map kwF) #[tv, .int .i64 tol, ev, .map (some m1), .map (some m2), pv] zs (nmOf es) es ps) (HR : WsR F w.heap.size W ws) (HS : StOk zs es ps) (HW : WsOk zs es ws) (hx : x.wf) (hp : I64 p) (hrl : RdL W x.la x.ln lx) (hln : x.ln * 24 ≤ 140737488351232) (htw : twiceB es p x.ref = false) (hsh : Short zs) (ht : I64 tol) (hpw : PowT w) (hpf : PowFree F)
    (hside : W.heap[sb]? = some (.cells (sideC p x) 28 (0, 0)))
    (hel : es.length + 1 ≤ 676000000000) (hzl : zs.length ≤ 140737488351232) (hpl : (ps.length + 1) * 32 ≤ 140737488355328)
    (post : ∀ (la : Option Addr) (lc : Nat) (ev' : Value), AddPost F w b tv ev' pv m1 m2 ws zs tol (nmOf (es ++ [entN p x lx la lc])) es ps (entN p x lx la lc) Φ) :
    Code.wp Tryz.prog tail15 (bodyPost Tryz.prog Tryz.f10 Φ) ⟨#[.pointer (some ⟨b, 0, none⟩), u1, u2, .pointer (some ⟨sb, 0, none⟩), u4, u5, u6, u7, u8, u9, u10, u11, u12, u13, u14, u15, u16, u17, u18, u19, u20, u21, u22, u23, u24, u25, u26, u27, u28, u29, u30, u31, u32, u33, u34, u35, u36, u37, u38, u39, u40, u41, u42, u43, u44, u45, u46, u47, u48, u49, u50, u51, u52, u53, u54, u55, u56, u57, u58, u59, u60, u61, u62, u63, u64, u65, u66, u67, u68, u69, u70, u71, u72, u73, u74, u75, u76, u77, u78, u79, u80, u81, u82, u83, u84, u85, u86, u87, u88, u89, u90, u91, u92, u93, u94, u95, u96, u97, u98, u99, u100, u101, u102, u103, u104, u105, u106, u107, u108, u109, u110, u111, u112, u113, u114, u115, u116, u117, u118, u119, u120, u121, u122, u123, u124, u125, u126, u127, u128, u129, u130, u131, u132, u133, u134, u135, u136, u137, u138, u139, u140, u141, u142, u143, u144, u145, u146, u147, u148, u149, u150, u151, u152, u153, u154, u155, u156, u157, u158, u159, u160, u161, u162, u163, u164, u165, u166, u167, u168, u169, u170, u171, u172, u173, u174, u175, u176, u177, u178, u179, u180, u181, u182, u183, u184, u185, u186, u187, u188, u189, u190, u191, u192, u193, u194, u195, u196, u197, u198, u199, u200, u201, u202, u203, u204, u205, u206, u207, u208, u209, u210, u211, u212, u213, u214, u215, u216, u217, u218, u219, u220, u221, u222, u223, u224, u225, u226, u227], []⟩ W := by
  obtain ⟨i0, hi0, hz0, hz1, hz2⟩ := Sp.info_of infoE
  obtain ⟨EA, ec, hev⟩ := ow_slice HM.rE
  subst hev
  have hnn : ∀ la lc, nmOf (es ++ [entN p x lx la lc]) = nmOf (es ++ [entN p x lx none 0]) := fun la lc => by simp [nmOf, List.zipIdx_append, entN]
  have HPO := Lib.hid post
  have HM0 := Lib.hid HM.drew
  have HMB := HM.book
  have HR0 := Lib.hid HR.drew
  have c2 : W.cell? ⟨b, 2, none⟩ = some (.slice EA es.length ec) := cell_of_row W b 2 _ _ _ HMB
  have HSB0 : Hid (W.drew.heap[sb]? = some (.cells (sideC p x) 28 (0, 0))) := Lib.hid hside
  have HPW := Lib.hid hpw
  have HPF := Lib.hid hpf
  have HRL := Lib.hid (hrl.below (bl_drew (bl_refl W)))
  have HSS := Lib.hid HS
  have HWW := Lib.hid HW
  have HX := Lib.hid hx
  have HP := Lib.hid hp
  have HLN := Lib.hid hln
  have HTW := Lib.hid htw
  have HSH := Lib.hid hsh
  have HT := Lib.hid ht
  have HEL := Lib.hid hel
  have HZL := Lib.hid hzl
  have HPL := Lib.hid hpl
  have HNN := Lib.hid hnn
  clear post HM HMB HR hside hpw hpf hrl HS HW hx hp hln htw hsh ht hel hzl hpl hnn
  conv => arg 2; whnf
  dsimp only
  go_upto_region 16 with fail
  refine wp_region_heldE (S := fun W1 => W1.heap[b]? = some (.cells #[tv, .int .i64 tol, .slice EA es.length ec, .map (some m1), .map (some m2), pv] 82 (0, 0)) ∧ W1.heap[sb]? = some (.cells (sideC p x) 28 (0, 0))) (ds := [11]) (by kernel_rfl) (⟨HM0.out.book, HSB0.out⟩) (fun hHeld => ?_)
  refine wpAnyE_take (i := 0) (oi := ({ dst := some 82, op := Op.move (Operand.tmp 0), type := 33, pos := "match.go:135", after := #[], guard := none } : Oper)) (v := ?_) rfl (by kernel_rfl) (by kernel_rfl) (by kernel_rfl) (by kernel_rfl) (fun _ _ _ h => h) (Or.inl ⟨by rfl, ?_⟩) hHeld ?_
  rotate_left
  · intro w' hSw; (try dsimp only at hSw); go_simp <;> with_reducible rfl
  try simp only [Act.put, List.setIfInBounds_toArray, List.set_cons_zero, List.set_cons_succ]
  refine wpAnyE_take (i := 1) (oi := ({ dst := some 83, op := Op.nilCheck (Operand.tmp 82), type := 0, pos := "match.go:135", after := #[{ on := 0, ground := Ground.data }], guard := none } : Oper)) (v := ?_) rfl (by kernel_rfl) (by kernel_rfl) (by kernel_rfl) (by kernel_rfl) (fun _ _ _ h => h) (Or.inl ⟨by rfl, ?_⟩) hHeld ?_
  rotate_left
  · intro w' hSw; (try dsimp only at hSw); go_simp <;> with_reducible rfl
  try simp only [Act.put, List.setIfInBounds_toArray, List.set_cons_zero, List.set_cons_succ]
  refine wpAnyE_take (i := 2) (oi := ({ dst := some 84, op := Op.fieldAddr 82 (Operand.tmp 83) 3, type := 0, pos := "match.go:135", after := #[{ on := 1, ground := Ground.data }], guard := none } : Oper)) (v := ?_) rfl (by kernel_rfl) (by kernel_rfl) (by kernel_rfl) (by kernel_rfl) (fun _ _ _ h => h) (Or.inl ⟨by rfl, ?_⟩) hHeld ?_
  rotate_left
  · intro w' hSw; (try dsimp only at hSw); go_simp <;> with_reducible rfl
  try simp only [Act.put, List.setIfInBounds_toArray, List.set_cons_zero, List.set_cons_succ]
  refine wpAnyE_take (i := 3) (oi := ({ dst := some 85, op := Op.load 77 (Operand.tmp 84), type := 77, pos := "match.go:135", after := #[{ on := 2, ground := Ground.data }], guard := none } : Oper)) (v := ?_) rfl (by kernel_rfl) (by kernel_rfl) (by kernel_rfl) (by kernel_rfl) (fun _ _ _ h => h) (Or.inl ⟨by rfl, ?_⟩) hHeld ?_
  rotate_left
  · intro w' hSw; (try dsimp only at hSw); have hcf := cell_of_row w' b 3 _ _ _ hSw.1; go_simp <;> with_reducible rfl
  try simp only [Act.put, List.setIfInBounds_toArray, List.set_cons_zero, List.set_cons_succ]
  refine wpAnyE_take (i := 4) (oi := ({ dst := some 86, op := Op.fieldAddr 28 (Operand.tmp 3) 0, type := 0, pos := "match.go:135", after := #[], guard := none } : Oper)) (v := ?_) rfl (by kernel_rfl) (by kernel_rfl) (by kernel_rfl) (by kernel_rfl) (fun _ _ _ h => h) (Or.inl ⟨by rfl, ?_⟩) hHeld ?_
  rotate_left
  · intro w' hSw; (try dsimp only at hSw); go_simp <;> with_reducible rfl
  try simp only [Act.put, List.setIfInBounds_toArray, List.set_cons_zero, List.set_cons_succ]
  refine wpAnyE_take (i := 5) (oi := ({ dst := some 87, op := Op.load 3 (Operand.tmp 86), type := 3, pos := "match.go:135", after := #[{ on := 4, ground := Ground.data }], guard := none } : Oper)) (v := ?_) rfl (by kernel_rfl) (by kernel_rfl) (by kernel_rfl) (by kernel_rfl) (fun _ _ _ h => h) (Or.inl ⟨by rfl, ?_⟩) hHeld ?_
  rotate_left
  · intro w' hSw; (try dsimp only at hSw); have hcf := (cell_of_row w' sb 0 _ _ _ hSw.2).trans (show (sideC p x)[0]? = some (.int .i64 p) from rfl); go_simp <;> with_reducible rfl
  try simp only [Act.put, List.setIfInBounds_toArray, List.set_cons_zero, List.set_cons_succ]
  refine wpAnyE_take (i := 6) (oi := ({ dst := some 88, op := Op.fieldAddr 28 (Operand.tmp 3) 1, type := 0, pos := "match.go:135", after := #[], guard := none } : Oper)) (v := ?_) rfl (by kernel_rfl) (by kernel_rfl) (by kernel_rfl) (by kernel_rfl) (fun _ _ _ h => h) (Or.inl ⟨by rfl, ?_⟩) hHeld ?_
  rotate_left
  · intro w' hSw; (try dsimp only at hSw); go_simp <;> with_reducible rfl
  try simp only [Act.put, List.setIfInBounds_toArray, List.set_cons_zero, List.set_cons_succ]
  refine wpAnyE_take (i := 7) (oi := ({ dst := some 89, op := Op.fieldAddr 26 (Operand.tmp 88) 0, type := 0, pos := "match.go:135", after := #[{ on := 6, ground := Ground.data }], guard := none } : Oper)) (v := ?_) rfl (by kernel_rfl) (by kernel_rfl) (by kernel_rfl) (by kernel_rfl) (fun _ _ _ h => h) (Or.inl ⟨by rfl, ?_⟩) hHeld ?_
  rotate_left
  · intro w' hSw; (try dsimp only at hSw); go_simp <;> with_reducible rfl
  try simp only [Act.put, List.setIfInBounds_toArray, List.set_cons_zero, List.set_cons_succ]
  refine wpAnyE_take (i := 8) (oi := ({ dst := some 90, op := Op.load 9 (Operand.tmp 89), type := 9, pos := "match.go:135", after := #[{ on := 7, ground := Ground.data }], guard := none } : Oper)) (v := ?_) rfl (by kernel_rfl) (by kernel_rfl) (by kernel_rfl) (by kernel_rfl) (fun _ _ _ h => h) (Or.inl ⟨by rfl, ?_⟩) hHeld ?_
  rotate_left
  · intro w' hSw; (try dsimp only at hSw); have hcf := (cell_of_row w' sb 1 _ _ _ hSw.2).trans (show (sideC p x)[1]? = some (.string x.ref) from rfl); go_simp <;> with_reducible rfl
  try simp only [Act.put, List.setIfInBounds_toArray, List.set_cons_zero, List.set_cons_succ]
  refine wpAnyE_take (i := 9) (oi := ({ dst := some 91, op := Op.build 90 #[(0, Operand.tmp 87), (1, Operand.tmp 90)], type := 90, pos := "match.go:135", after := #[{ on := 5, ground := Ground.data }, { on := 8, ground := Ground.data }], guard := none } : Oper)) (v := ?_) rfl (by kernel_rfl) (by kernel_rfl) (by kernel_rfl) (by kernel_rfl) (fun _ _ _ h => h) (Or.inl ⟨by rfl, ?_⟩) hHeld ?_
  rotate_left
  · intro w' hSw; (try dsimp only at hSw); go_simp <;> with_reducible rfl
  try simp only [Act.put, List.setIfInBounds_toArray, List.set_cons_zero, List.set_cons_succ]
  refine wpAnyE_take (i := 10) (oi := ({ dst := some 92, op := Op.move (Operand.tmp 11), type := 3, pos := "match.go:135", after := #[], guard := none } : Oper)) (v := ?_) rfl (by kernel_rfl) (by kernel_rfl) (by kernel_rfl) (by kernel_rfl) (fun _ _ _ h => h) (Or.inl ⟨by rfl, ?_⟩) hHeld ?_
  rotate_left
  · intro w' hSw; (try dsimp only at hSw); go_simp <;> with_reducible rfl
  try simp only [Act.put, List.setIfInBounds_toArray, List.set_cons_zero, List.set_cons_succ]
  refine wpAnyE_ready (rs := [11]) (by kernel_rfl) (by simp) ?_
  refine AllReadyE.cons (o := ({ dst := none, op := Op.mapUpdate 77 (Operand.tmp 85) (Operand.tmp 91) (Operand.tmp 92), type := 0, pos := "match.go:135", after := #[{ on := 3, ground := Ground.data }, { on := 9, ground := Ground.data }, { on := 10, ground := Ground.data }, { on := 0, ground := Ground.phase }, { on := 1, ground := Ground.phase }, { on := 2, ground := Ground.phase }, { on := 3, ground := Ground.phase }, { on := 4, ground := Ground.phase }, { on := 5, ground := Ground.phase }, { on := 6, ground := Ground.phase }, { on := 7, ground := Ground.phase }, { on := 8, ground := Ground.phase }, { on := 9, ground := Ground.phase }, { on := 10, ground := Ground.phase }], guard := none } : Oper)) rfl (fun K hK => ?_) AllReadyE.nil
  rw [if_pos (by rfl)]
  obtain ⟨o, hrun, hm⟩ := name_put HSS.out HM0.out.mN p x.ref HP.out HX.out.ref HTW.out (entN p x lx none 0) rfl rfl
  have HM1 := Lib.hid (HM0.out.names o _ hm)
  have HR1 := Lib.hid (HR0.out.map_ HM0.out.mN (gb_block W.drew m1 o))
  have HSB1 := Lib.hid ((setBlock_other (W := W.drew) (o := o) (map_ne_book HM0.out.mN HSB0.out)).trans HSB0.out)
  have HRL1 := Lib.hid (RdL.map_ HM0.out.mN (gb_block W.drew m1 o) HRL.out)
  refine wp_mapUpdate_known 77 (.tmp 85) (.tmp 91) (.tmp 92) rfl (.map (some m1)) (nameV p x.ref) (natV es.length) rfl rfl rfl hrun ?_
  refine hK.out _ _ (Or.inl ⟨11, by simp, by kernel_rfl⟩) (fun _ => ?_)
  clear hK K
  try clear hHeld
  try clear hb
  try simp only [Act.put, List.setIfInBounds_toArray, List.set_cons_zero, List.set_cons_succ]
  refine wpAnyE_done (by kernel_rfl) ?_ _
  clear HM0 HR0 HSB0 HRL hrun hm
  generalize setBlock W.drew m1 o = W1 at HM1 HR1 HSB1 HRL1 ⊢
  go_upto_region 17 with fail
  rename_i hK18
  have HM2 := Lib.hid HM1.out.drew
  have HR2 := Lib.hid HR1.out.drew
  have HSB2 : Hid (W1.drew.heap[sb]? = some (.cells (sideC p x) 28 (0, 0))) := Lib.hid HSB1.out
  have HCO := Lib.hid (copied_any p x lx W1.drew (HRL1.out.below (bl_drew (bl_refl W1))) HLN.out)
  clear HM1 HR1 HSB1 HRL1
  refine wp_region_heldE (S := fun W1 => W1.heap[b]? = some (.cells #[tv, .int .i64 tol, .slice EA es.length ec, .map (some m1), .map (some m2), pv] 82 (0, 0)) ∧ W1.heap[sb]? = some (.cells (sideC p x) 28 (0, 0))) (ds := [12]) (by kernel_rfl) (⟨HM2.out.book, HSB2.out⟩) (fun hHeld => ?_)
  refine wpAnyE_take (i := 0) (oi := ({ dst := some 93, op := Op.move (Operand.tmp 0), type := 33, pos := "match.go:136", after := #[], guard := none } : Oper)) (v := ?_) rfl (by kernel_rfl) (by kernel_rfl) (by kernel_rfl) (by kernel_rfl) (fun _ _ _ h => h) (Or.inl ⟨by rfl, ?_⟩) hHeld ?_
  rotate_left
  · intro w' hSw; (try dsimp only at hSw); go_simp <;> with_reducible rfl
  try simp only [Act.put, List.setIfInBounds_toArray, List.set_cons_zero, List.set_cons_succ]
  refine wpAnyE_take (i := 1) (oi := ({ dst := some 94, op := Op.move (Operand.tmp 0), type := 33, pos := "match.go:136", after := #[], guard := none } : Oper)) (v := ?_) rfl (by kernel_rfl) (by kernel_rfl) (by kernel_rfl) (by kernel_rfl) (fun _ _ _ h => h) (Or.inl ⟨by rfl, ?_⟩) hHeld ?_
  rotate_left
  · intro w' hSw; (try dsimp only at hSw); go_simp <;> with_reducible rfl
  try simp only [Act.put, List.setIfInBounds_toArray, List.set_cons_zero, List.set_cons_succ]
  refine wpAnyE_take (i := 2) (oi := ({ dst := some 95, op := Op.nilCheck (Operand.tmp 94), type := 0, pos := "match.go:136", after := #[{ on := 1, ground := Ground.data }], guard := none } : Oper)) (v := ?_) rfl (by kernel_rfl) (by kernel_rfl) (by kernel_rfl) (by kernel_rfl) (fun _ _ _ h => h) (Or.inl ⟨by rfl, ?_⟩) hHeld ?_
  rotate_left
  · intro w' hSw; (try dsimp only at hSw); go_simp <;> with_reducible rfl
  try simp only [Act.put, List.setIfInBounds_toArray, List.set_cons_zero, List.set_cons_succ]
  refine wpAnyE_take (i := 3) (oi := ({ dst := some 96, op := Op.fieldAddr 82 (Operand.tmp 95) 2, type := 0, pos := "match.go:136", after := #[{ on := 2, ground := Ground.data }], guard := none } : Oper)) (v := ?_) rfl (by kernel_rfl) (by kernel_rfl) (by kernel_rfl) (by kernel_rfl) (fun _ _ _ h => h) (Or.inl ⟨by rfl, ?_⟩) hHeld ?_
  rotate_left
  · intro w' hSw; (try dsimp only at hSw); go_simp <;> with_reducible rfl
  try simp only [Act.put, List.setIfInBounds_toArray, List.set_cons_zero, List.set_cons_succ]
  refine wpAnyE_take (i := 4) (oi := ({ dst := some 97, op := Op.load 79 (Operand.tmp 96), type := 79, pos := "match.go:136", after := #[{ on := 3, ground := Ground.data }], guard := none } : Oper)) (v := ?_) rfl (by kernel_rfl) (by kernel_rfl) (by kernel_rfl) (by kernel_rfl) (fun _ _ _ h => h) (Or.inl ⟨by rfl, ?_⟩) hHeld ?_
  rotate_left
  · intro w' hSw; (try dsimp only at hSw); have hcf := cell_of_row w' b 2 _ _ _ hSw.1; go_simp <;> with_reducible rfl
  try simp only [Act.put, List.setIfInBounds_toArray, List.set_cons_zero, List.set_cons_succ]
  refine wpAnyE_take (i := 5) (oi := ({ dst := some 98, op := Op.load 28 (Operand.tmp 3), type := 28, pos := "match.go:136", after := #[], guard := none } : Oper)) (v := .agg (sideC p x)) rfl (by kernel_rfl) (by kernel_rfl) (by kernel_rfl) (by kernel_rfl) (fun _ _ _ h => h) (yieldsIf_load_known (by rfl) 28 (Operand.tmp 3) rfl ⟨sb, 0, none⟩ (.agg (sideC p x)) rfl (fun w' h => load_side p x w' sb _ h.2)) hHeld ?_
  try simp only [Act.put, List.setIfInBounds_toArray, List.set_cons_zero, List.set_cons_succ]
  refine wpAnyE_ready (rs := [6]) (by kernel_rfl) (by simp) ?_
  refine AllReadyE.cons (o := ({ dst := some 99, op := Op.call { callee := Callee.value (Operand.func 32), args := #[Operand.tmp 98], argTypes := #[28] }, type := 28, pos := "match.go:136", after := #[{ on := 5, ground := Ground.data }], guard := none } : Oper)) rfl (fun K hK => ?_) AllReadyE.nil
  go_simp
  go_at_call 32
  (with_reducible refine HCO.out.mono ?_)
  rintro e1 W2 ⟨la, lc, rfl, hown, hb2⟩
  have HM3 := Lib.hid (HM2.out.grow hb2)
  have HR3 := Lib.hid (HR2.out.grow hb2)
  have HOL := Lib.hid hown
  have HLW := Lib.hid HM2.out.low.size
  clear hown HCO HM2 HR2
  have hHeld2 : (show World → Prop from fun W1 => W1.heap[b]? = some (.cells #[tv, .int .i64 tol, .slice EA es.length ec, .map (some m1), .map (some m2), pv] 82 (0, 0)) ∧ W1.heap[sb]? = some (.cells (sideC p x) 28 (0, 0))) _ := ⟨blk_none hHeld.1 (gb_below hb2), blk_none hHeld.2 (gb_below hb2)⟩
  refine hK.out _ _ (Or.inr hHeld2) (fun _ => ?_)
  clear hK K hHeld
  try clear hb
  have hHeld := hHeld2
  clear hHeld2
  try simp only [Act.put, List.setIfInBounds_toArray, List.set_cons_zero, List.set_cons_succ]
  refine wpAnyE_take (i := 7) (oi := ({ dst := some 100, op := Op.build 93 #[(0, Operand.tmp 99), (1, Operand.const (Value.int IntKind.i64 (-1)))], type := 93, pos := "match.go:136", after := #[{ on := 6, ground := Ground.data }], guard := none } : Oper)) (v := .agg (entC (entN p x lx la lc)).toArray) rfl (by kernel_rfl) (by kernel_rfl) (by kernel_rfl) (by kernel_rfl) (fun _ _ _ h => h) (yields_build (by rfl) 93 _ rfl #[(0, .agg (sideC p { x with la := la, lc := lc })), (1, .int .i64 (-1))] _ rfl (fun w' h => build_entry p { x with la := la, lc := lc } lx w')) hHeld ?_
  try simp only [Act.put, List.setIfInBounds_toArray, List.set_cons_zero, List.set_cons_succ]
  refine wpAnyE_ready (rs := [8]) (by kernel_rfl) (by simp) ?_
  refine AllReadyE.cons (o := ({ dst := some 101, op := Op.buildSlice 79 1 #[(0, Operand.tmp 100)], type := 79, pos := "match.go:136", after := #[{ on := 7, ground := Ground.data }], guard := none } : Oper)) rfl (fun K hK => ?_) AllReadyE.nil
  rw [if_pos (by rfl)]
  refine wp_buildSlice_known 79 1 #[(0, .tmp 100)] rfl #[(0, .agg (entC (entN p x lx la lc)).toArray)] _ rfl (slice_entN p x lx la lc _) ?_
  have hb4 := bl_alloc (bl_refl W2) (.cells (entC (entN p x lx la lc)).toArray 93)
  have HM4 := Lib.hid (HM3.out.grow hb4)
  have HR4 := Lib.hid (HR3.out.grow hb4)
  have HOL4 := Lib.hid (ow_none HOL.out (gb_below hb4))
  have HC4 : Hid ((W2.alloc (.cells (entC (entN p x lx la lc)).toArray 93)).heap[W2.heap.size]? = some (.cells (entC (entN p x lx la lc)).toArray 93 (0, 0))) := Lib.hid (heap_alloc_new W2 _)
  have hHeld2 : (show World → Prop from fun W1 => W1.heap[b]? = some (.cells #[tv, .int .i64 tol, .slice EA es.length ec, .map (some m1), .map (some m2), pv] 82 (0, 0)) ∧ W1.heap[sb]? = some (.cells (sideC p x) 28 (0, 0))) _ := ⟨blk_none hHeld.1 (gb_below hb4), blk_none hHeld.2 (gb_below hb4)⟩
  refine hK.out _ _ (Or.inr hHeld2) (fun _ => ?_)
  clear hK K hHeld
  try clear hb
  have hHeld := hHeld2
  clear hHeld2
  try simp only [Act.put, List.setIfInBounds_toArray, List.set_cons_zero, List.set_cons_succ]
  refine wpAnyE_ready (rs := [9]) (by kernel_rfl) (by simp) ?_
  refine AllReadyE.cons (o := ({ dst := some 102, op := Op.call { callee := Callee.builtin Builtin.append, args := #[Operand.tmp 97, Operand.tmp 101], argTypes := #[79, 79] }, type := 79, pos := "match.go:136", after := #[{ on := 4, ground := Ground.data }, { on := 8, ground := Ground.data }, { on := 6, ground := Ground.chain }], guard := none } : Oper)) rfl (fun K hK => ?_) AllReadyE.nil
  rw [if_pos (by rfl)]
  generalize W2.alloc (.cells (entC (entN p x lx la lc)).toArray 93) = W4 at HM4 HR4 HOL4 HC4 hHeld ⊢
  generalize W2.heap.size = N4 at HC4 ⊢
  refine wp_append_new (.tmp 97) (.tmp 101) 79 rfl 0 93 i0 (.agg (entC ⟨0, nt0, [], 0, false, false⟩).toArray) 31 208 Tryz.underlying79 hi0 hz0 hz1 hz2 rfl (by decide) (.slice EA es.length ec) es.length (es.flatMap entC) rfl HM4.out.rE ⟨N4, 0, none⟩ 1 1 (entC (entN p x lx la lc)) rfl rfl (cells_arr HC4.out) (entC_one _) (by have := HEL.out; unfold maxLen; omega) (by have := HEL.out; omega) (Nat.zero_le _) (by decide) ?_
  intro v' W5 hown hgrow hnew
  obtain ⟨EB, ed, rfl⟩ := ow_slice hown
  have HM5 := Lib.hid (HM4.out.ents hgrow (.slice EB (es.length + 1) ed) (es ++ [entN p x lx la lc]) (own_ents hown) (inF_of_new hnew HM4.out.iE HM4.out.low.size) (ents_rows HM4.out.rL HOL4.out) (ents_inF HM4.out.iL HOL4.out HLW.out))
  have HR5 := Lib.hid (HR4.out.row HM4.out.rE (by decide) hgrow)
  have HS5 := Lib.hid (row_kept_other hHeld.2 HM4.out.rE (by decide) hgrow)
  clear hown hgrow hnew
  have hHeld2 : (show World → Prop from fun W1 => W1.heap[b]? = some (.cells #[tv, .int .i64 tol, .slice EA es.length ec, .map (some m1), .map (some m2), pv] 82 (0, 0)) ∧ W1.heap[sb]? = some (.cells (sideC p x) 28 (0, 0))) _ := ⟨HM5.out.book, HS5.out⟩
  refine hK.out _ _ (Or.inr hHeld2) (fun _ => ?_)
  clear hK K hHeld
  try clear hb
  have hHeld := hHeld2
  clear hHeld2
  try simp only [Act.put, List.setIfInBounds_toArray, List.set_cons_zero, List.set_cons_succ]
  refine wpAnyE_ready (rs := [10]) (by kernel_rfl) (by simp) ?_
  refine AllReadyE.cons (o := ({ dst := some 103, op := Op.nilCheck (Operand.tmp 93), type := 0, pos := "match.go:136", after := #[{ on := 0, ground := Ground.data }, { on := 0, ground := Ground.phase }, { on := 1, ground := Ground.phase }, { on := 2, ground := Ground.phase }, { on := 3, ground := Ground.phase }, { on := 4, ground := Ground.phase }, { on := 5, ground := Ground.phase }, { on := 6, ground := Ground.phase }, { on := 7, ground := Ground.phase }, { on := 8, ground := Ground.phase }, { on := 9, ground := Ground.phase }], guard := none } : Oper)) rfl (fun K hK => ?_) AllReadyE.nil
  go_simp
  have hHeld2 : (show World → Prop from fun W1 => W1.heap[b]? = some (.cells #[tv, .int .i64 tol, .slice EA es.length ec, .map (some m1), .map (some m2), pv] 82 (0, 0)) ∧ W1.heap[sb]? = some (.cells (sideC p x) 28 (0, 0))) _ := hHeld
  refine hK.out _ _ (Or.inr hHeld2) (fun _ => ?_)
  clear hK K hHeld
  try clear hb
  have hHeld := hHeld2
  clear hHeld2
  try simp only [Act.put, List.setIfInBounds_toArray, List.set_cons_zero, List.set_cons_succ]
  refine wpAnyE_take (i := 11) (oi := ({ dst := some 104, op := Op.fieldAddr 82 (Operand.tmp 103) 2, type := 0, pos := "match.go:136", after := #[{ on := 10, ground := Ground.data }, { on := 0, ground := Ground.phase }, { on := 1, ground := Ground.phase }, { on := 2, ground := Ground.phase }, { on := 3, ground := Ground.phase }, { on := 4, ground := Ground.phase }, { on := 5, ground := Ground.phase }, { on := 6, ground := Ground.phase }, { on := 7, ground := Ground.phase }, { on := 8, ground := Ground.phase }, { on := 9, ground := Ground.phase }], guard := none } : Oper)) (v := ?_) rfl (by kernel_rfl) (by kernel_rfl) (by kernel_rfl) (by kernel_rfl) (fun _ _ _ h => h) (Or.inl ⟨by rfl, ?_⟩) hHeld ?_
  rotate_left
  · intro w' hSw; (try dsimp only at hSw); go_simp <;> with_reducible rfl
  try simp only [Act.put, List.setIfInBounds_toArray, List.set_cons_zero, List.set_cons_succ]
  refine wpAnyE_ready (rs := [12]) (by kernel_rfl) (by simp) ?_
  refine AllReadyE.cons (o := ({ dst := none, op := Op.store 79 (Operand.tmp 104) (Operand.tmp 102), type := 0, pos := "match.go:136", after := #[{ on := 11, ground := Ground.data }, { on := 9, ground := Ground.data }, { on := 9, ground := Ground.chain }, { on := 0, ground := Ground.phase }, { on := 1, ground := Ground.phase }, { on := 2, ground := Ground.phase }, { on := 3, ground := Ground.phase }, { on := 4, ground := Ground.phase }, { on := 5, ground := Ground.phase }, { on := 6, ground := Ground.phase }, { on := 7, ground := Ground.phase }, { on := 8, ground := Ground.phase }, { on := 9, ground := Ground.phase }], guard := none } : Oper)) rfl (fun K hK => ?_) AllReadyE.nil
  have c5 : W5.cell? ⟨b, 2, none⟩ = some (.slice EA es.length ec) := cell_of_row W5 b 2 _ _ _ HM5.out.book
  have f5 : W5.frozen? ⟨b, 2, none⟩ = false := row_free HM5.out.book 2
  clear HM3 HR3 HM4 HR4 HOL HOL4 HC4
  go_simp
  have HM6 : Hid (BkM F w (W5.setCell ⟨b, 2, none⟩ (.slice EB (es.length + 1) ed)) b tv (.slice EB (es.length + 1) ed) pv m1 m2 (ws.map kwF) #[tv, .int .i64 tol, .slice EB (es.length + 1) ed, .map (some m1), .map (some m2), pv] zs (nmOf (es ++ [entN p x lx la lc])) (es ++ [entN p x lx la lc]) ps) := Lib.hid (by rw [HNN.out la lc]; exact HM5.out.cell 2 (.slice EB (es.length + 1) ed))
  have HR6 := Lib.hid (HR5.out.other HM5.out.book (by decide) (gb_cell W5 ⟨b, 2, none⟩ (.slice EB (es.length + 1) ed)))
  have HS6 := Lib.hid (blk_ne HS5.out (side_ne HS5.out HM5.out.book) (gb_cell W5 ⟨b, 2, none⟩ (.slice EB (es.length + 1) ed)))
  refine hK.out _ _ (Or.inl ⟨12, by simp, by kernel_rfl⟩) (fun _ => ?_)
  clear hK K
  try clear hHeld
  try clear hb
  try simp only [Act.put, List.setIfInBounds_toArray, List.set_cons_zero, List.set_cons_succ]
  refine wpAnyE_done (by kernel_rfl) ?_ _
  generalize W5.setCell ⟨b, 2, none⟩ (.slice EB (es.length + 1) ed) = W6 at HM6 HR6 HS6 ⊢
  refine hK18 _ _ ?_
  exact add_tail18 (F := F) (w := w) (e := entN p x lx la lc) (x := x) (la := la) (lc := lc) _ _ _ _ _ _ _ _ _ _ _ _ _ _ _ _ _ _ _ _ _ _ _ _ _ _ _ _ _ _ _ _ _ _ _ _ _ _ _ _ _ _ _ _ _ _ _ _ _ _ _ _ _ _ _ _ _ _ _ _ _ _ _ _ _ _ _ _ _ _ _ _ _ _ _ _ _ _ _ _ _ _ _ _ _ _ _ _ _ _ _ _ _ _ _ _ _ _ _ _ _ _ _ _ _ _ _ _ _ _ _ _ _ _ _ _ _ _ _ _ _ _ _ _ _ _ _ _ _ _ _ _ _ _ _ _ _ _ _ _ _ _ _ _ _ _ _ _ _ _ _ _ _ _ _ _ _ _ _ _ _ _ _ _ _ _ _ _ _ _ _ _ _ _ _ _ _ _ _ _ _ _ _ _ _ _ _ _ _ _ _ _ _ _ _ _ _ _ _ _ _ _ _ _ _ _ _ _ _ _ _ _ _ _ _ _ _ _ _ _ _ _ _ _ _ HM6.out HR6.out HWW.out rfl (ents_ok HSS.out HX.out HP.out la lc) HSH.out HT.out (pow_low HPW.out HPF.out HM6.out.low) rfl HS6.out (by have := HEL.out; omega) HZL.out HPL.out (HPO.out la lc _)
end Go.Proofs.YtphabkaiheplpaaGreatDoor
