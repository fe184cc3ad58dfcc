/- Joined texts of this proof: BkA18. -/
import Derived.Outline
import Derived.Test.YtphabkaiheplpaaGreatDoorRests20
/- (*match.Book).Add from its faces on. -/
set_option linter.unusedVariables false
set_option linter.unusedSimpArgs false
set_option maxRecDepth 100000
namespace Go.Proofs.YtphabkaiheplpaaGreatDoor
open Go.RowKit Go.Shelf Go.Maps
open Go.ChangeMaps (setBlock)

noncomputable def tail18 : Code := ((Tryz.f10.body.bind (fromR 18)).getD .skip)
/-- What Add leaves: nobody fits, or somebody does. -/
structure AddPost (F : Nat → Prop) (w : World) (b : Nat) (tv ev pv : Value) (m1 m2 : Nat) (ws : List Wq) (zs : List ByteArray) (tol : Int) (nm : List (Value × Value)) (es : List Ent) (ps : List Pr) (e : Ent) (Φ : Ending → World → Prop) : Prop where
  none_ : firstK zs tol es e = none → ∀ (W' : World) (ws' : List Wq), BkM F w W' b tv ev pv m1 m2 (ws'.map kwF) #[tv, .int .i64 tol, ev, .map (some m1), .map (some m2), pv] zs nm (es ++ [e]) ps → WsR F w.heap.size W' ws' → WsOk zs (es ++ [e]) ws' → Φ (.returned (.tuple #[.int .i64 es.length, .int .i64 (-1), .nilIface])) W'
  some_ : ∀ k, firstK zs tol es e = some k → ∀ (W' : World) (ev' pv' v' : Value) (j i : Nat) (q : Wq), ws[j]? = some q → sameFace q.1 (faceO e.p e.x zs) = true → q.2.2 = wl zs es (faceO e.p e.x zs) → q.2.2[i]? = some k →
      BkM F w W' b tv ev' pv' m1 m2 ((ws.set j (q.1, v', q.2.2.eraseIdx i)).map kwF) #[tv, .int .i64 tol, ev', .map (some m1), .map (some m2), pv'] zs nm (paired (es ++ [e]) (drOf e es.length k).1 (drOf e es.length k).2 ps.length) (ps ++ [Pr.mk (drOf e es.length k).1 (drOf e es.length k).2 (fitK zs tol e (es.getD k ent0)).1 false]) →
      WsR F w.heap.size W' (ws.set j (q.1, v', q.2.2.eraseIdx i)) → Φ (.returned (.tuple #[.int .i64 es.length, .int .i64 ps.length, .nilIface])) W'
set_option maxHeartbeats 8000000 in
set_option maxRecDepth 1000000 in
theorem add_tail18 {F : Nat → Prop} {w W : World} {b sb : Nat} {tv ev pv : Value} {m1 m2 : Nat} {ws : List Wq} {zs : List ByteArray} {tol : Int} {nm : List (Value × Value)} {es : List Ent} {ps : List Pr} {e : Ent} {x : Nt} {la : Option Addr} {lc : Nat} (u1 u2 u4 u5 u6 u7 u8 u9 u10 u12 u13 u14 u15 u16 u17 u18 u19 u20 u21 u22 u23 u24 u25 u26 u27 u28 u29 u30 u31 u32 u33 u34 u35 u36 u37 u38 u39 u40 u41 u42 u43 u44 u45 u46 u47 u48 u49 u50 u51 u52 u53 u54 u55 u56 u57 u58 u59 u60 u61 u62 u63 u64 u65 u66 u67 u68 u69 u70 u71 u72 u73 u74 u75 u76 u77 u78 u79 u80 u81 u82 u83 u84 u85 u86 u87 u88 u89 u90 u91 u92 u93 u94 u95 u96 u97 u98 u99 u100 u101 u102 u103 u104 u105 u106 u107 u108 u109 u110 u111 u112 u113 u114 u115 u116 u117 u118 u119 u120 u121 u122 u123 u124 u125 u126 u127 u128 u129 u130 u131 u132 u133 u134 u135 u136 u137 u138 u139 u140 u141 u142 u143 u144 u145 u146 u147 u148 u149 u150 u151 u152 u153 u154 u155 u156 u157 u158 u159 u160 u161 u162 u163 u164 u165 u166 u167 u168 u169 u170 u171 u172 u173 u174 u175 u176 u177 u178 u179 u180 u181 u182 u183 u184 u185 u186 u187 u188 u189 u190 u191 u192 u193 u194 u195 u196 u197 u198 u199 u200 u201 u202 u203 u204 u205 u206 u207 u208 u209 u210 u211 u212 u213 u214 u215 u216 u217 u218 u219 u220 u221 u222 u223 u224 u225 u226 u227 : Value) {Φ : Ending → World → Prop}
    (HM : BkM F w W b tv ev pv m1 m2 (ws.map kwF) #[tv, .int .i64 tol, ev, .map (some m1), .map (some m2), pv] zs nm (es ++ [e]) ps) (HR : WsR F w.heap.size W ws) (HW : WsOk zs es ws) (ho : openB e = true) (hok : ∀ x ∈ es ++ [e], EntOk x) (hsh : Short zs) (ht : I64 tol) (hpw : PowT W)
    (he : e.x = { x with la := la, lc := lc })
    (hside : W.heap[sb]? = some (.cells (sideC e.p x) 28 (0, 0)))
    (hel : es.length + 1 ≤ 1000000000000) (hzl : zs.length ≤ 140737488351232) (hpl : (ps.length + 1) * 32 ≤ 140737488355328)
    (post : AddPost F w b tv ev pv m1 m2 ws zs tol nm es ps e Φ) :
    Code.wp Tryz.prog tail18 (bodyPost Tryz.prog Tryz.f10 Φ) ⟨#[.pointer (some ⟨b, 0, none⟩), u1, u2, .pointer (some ⟨sb, 0, none⟩), u4, u5, u6, u7, u8, u9, u10, .int .i64 (es.length : Int), u12, u13, u14, u15, u16, u17, u18, u19, u20, u21, u22, u23, u24, u25, u26, u27, u28, u29, u30, u31, u32, u33, u34, u35, u36, u37, u38, u39, u40, u41, u42, u43, u44, u45, u46, u47, u48, u49, u50, u51, u52, u53, u54, u55, u56, u57, u58, u59, u60, u61, u62, u63, u64, u65, u66, u67, u68, u69, u70, u71, u72, u73, u74, u75, u76, u77, u78, u79, u80, u81, u82, u83, u84, u85, u86, u87, u88, u89, u90, u91, u92, u93, u94, u95, u96, u97, u98, u99, u100, u101, u102, u103, u104, u105, u106, u107, u108, u109, u110, u111, u112, u113, u114, u115, u116, u117, u118, u119, u120, u121, u122, u123, u124, u125, u126, u127, u128, u129, u130, u131, u132, u133, u134, u135, u136, u137, u138, u139, u140, u141, u142, u143, u144, u145, u146, u147, u148, u149, u150, u151, u152, u153, u154, u155, u156, u157, u158, u159, u160, u161, u162, u163, u164, u165, u166, u167, u168, u169, u170, u171, u172, u173, u174, u175, u176, u177, u178, u179, u180, u181, u182, u183, u184, u185, u186, u187, u188, u189, u190, u191, u192, u193, u194, u195, u196, u197, u198, u199, u200, u201, u202, u203, u204, u205, u206, u207, u208, u209, u210, u211, u212, u213, u214, u215, u216, u217, u218, u219, u220, u221, u222, u223, u224, u225, u226, u227], []⟩ W := by
  have hew : EntOk e := hok e (by simp)
  have hxw : x.wf := by
    have := hew.wf
    rw [he] at this
    exact ⟨this.ref, this.prev, this.priority, this.trade, this.settle, this.code, this.qty, this.account, this.agent, this.other, this.amount, this.currency⟩
  have hfe : faceE e.p x zs = faceE e.p e.x zs := by rw [he]; exact (faceE_own _ _ _ _ _).symm
  have hfo : faceO e.p x zs = faceO e.p e.x zs := by rw [he]; exact (faceO_own _ _ _ _ _).symm
  obtain ⟨TA, tc, hev, hrdt, _⟩ := RdT_of_own HM.rT
  subst hev
  have HM0 := Lib.hid HM.drew
  have HR0 := Lib.hid HR.drew
  have HSB0 : Hid (W.drew.heap[sb]? = some (.cells (sideC e.p x) 28 (0, 0))) := Lib.hid hside
  have HPW : Hid (PowT W.drew) := Lib.hid (hpw.below (bl_drew (bl_refl W)))
  have HBK := Lib.hid (fun W1 (h : Below W.drew.heap.size W.drew W1) => blk_none HM.drew.book (gb_below h))
  have HSB := Lib.hid (fun W1 (h : Below W.drew.heap.size W.drew W1) => load_side e.p x W1 sb _ (blk_none HSB0.out (gb_below h)))
  have HFO : Hid (∀ W1, Below W.drew.heap.size W.drew W1 → Calls Tryz.prog 23 #[.agg (sideC e.p x), .slice TA zs.length tc] W1 fun e1 w' => e1 = .returned (.tuple #[.agg (faceC (faceE e.p e.x zs)), .agg (faceC (faceO e.p e.x zs))]) ∧ Below W1.heap.size W1 w') := Lib.hid (fun W1 h => by
    rw [← hfe, ← hfo]
    exact faceOf_agg e.p x TA zs.length tc zs (h) hew.p hxw ((hrdt.below (bl_drew (bl_refl W)))) hsh hzl HPW.out)
  have HOK := Lib.hid hok
  have HSH := Lib.hid hsh
  have HT := Lib.hid ht
  have HOO := Lib.hid ho
  have HEL := Lib.hid hel
  have HZL := Lib.hid hzl
  have HPL := Lib.hid hpl
  have HWW := Lib.hid HW
  have HPO := Lib.hid post
  have HE := Lib.hid he
  clear HM HR HW hside post hpw hok hsh ht ho hel hzl hpl hew hxw hfe hfo hrdt he
  conv => arg 2; whnf
  dsimp only
  go_upto_region 18 with fail
  rename_i hK19
  refine wp_region_heldE (S := fun W1 => Below W.drew.heap.size W.drew W1) (ds := [11, 12]) (by kernel_rfl) (bl_refl _) (fun hHeld => ?_)
  refine wpAnyE_take (i := 0) (oi := ({ dst := some 106, op := Op.load 28 (Operand.tmp 3), type := 28, pos := "match.go:137", after := #[], guard := none } : Oper)) (v := .agg (sideC e.p x)) rfl (by kernel_rfl) (by kernel_rfl) (by kernel_rfl) (by kernel_rfl) (fun _ _ _ h => h) (yieldsIf_load_known (by rfl) 28 (Operand.tmp 3) rfl ⟨sb, 0, none⟩ (.agg (sideC e.p x)) rfl (fun w' h => HSB.out w' h)) hHeld ?_
  try simp only [Act.put, List.setIfInBounds_toArray, List.set_cons_zero, List.set_cons_succ]
  refine wpAnyE_take (i := 1) (oi := ({ dst := some 107, op := Op.move (Operand.tmp 0), type := 33, pos := "match.go:137", after := #[], guard := none } : Oper)) (v := ?_) rfl (by kernel_rfl) (by kernel_rfl) (by kernel_rfl) (by kernel_rfl) (fun _ _ _ h => h) (Or.inl ⟨by rfl, ?_⟩) hHeld ?_
  rotate_left
  · intro w' hSw; (try dsimp only at hSw); go_simp <;> with_reducible rfl
  try simp only [Act.put, List.setIfInBounds_toArray, List.set_cons_zero, List.set_cons_succ]
  refine wpAnyE_take (i := 2) (oi := ({ dst := some 108, op := Op.nilCheck (Operand.tmp 107), type := 0, pos := "match.go:137", after := #[{ on := 1, ground := Ground.data }], guard := none } : Oper)) (v := ?_) rfl (by kernel_rfl) (by kernel_rfl) (by kernel_rfl) (by kernel_rfl) (fun _ _ _ h => h) (Or.inl ⟨by rfl, ?_⟩) hHeld ?_
  rotate_left
  · intro w' hSw; (try dsimp only at hSw); go_simp <;> with_reducible rfl
  try simp only [Act.put, List.setIfInBounds_toArray, List.set_cons_zero, List.set_cons_succ]
  refine wpAnyE_take (i := 3) (oi := ({ dst := some 109, op := Op.fieldAddr 82 (Operand.tmp 108) 0, type := 0, pos := "match.go:137", after := #[{ on := 2, ground := Ground.data }], guard := none } : Oper)) (v := ?_) rfl (by kernel_rfl) (by kernel_rfl) (by kernel_rfl) (by kernel_rfl) (fun _ _ _ h => h) (Or.inl ⟨by rfl, ?_⟩) hHeld ?_
  rotate_left
  · intro w' hSw; (try dsimp only at hSw); go_simp <;> with_reducible rfl
  try simp only [Act.put, List.setIfInBounds_toArray, List.set_cons_zero, List.set_cons_succ]
  refine wpAnyE_take (i := 4) (oi := ({ dst := some 110, op := Op.load 29 (Operand.tmp 109), type := 29, pos := "match.go:137", after := #[{ on := 3, ground := Ground.data }], guard := none } : Oper)) (v := ?_) rfl (by kernel_rfl) (by kernel_rfl) (by kernel_rfl) (by kernel_rfl) (fun _ _ _ h => h) (Or.inl ⟨by rfl, ?_⟩) hHeld ?_
  rotate_left
  · intro w' hSw; (try dsimp only at hSw); have hcf := cell_of_row w' b 0 _ _ _ (HBK.out _ hSw); go_simp <;> with_reducible rfl
  try simp only [Act.put, List.setIfInBounds_toArray, List.set_cons_zero, List.set_cons_succ]
  refine wpAnyE_ready (rs := [5, 9, 10]) (by kernel_rfl) (by simp) ?_
  refine AllReadyE.cons (o := ({ dst := some 111, op := Op.call { callee := Callee.value (Operand.func 23), args := #[Operand.tmp 106, Operand.tmp 110], argTypes := #[28, 29] }, type := 69, pos := "match.go:137", after := #[{ on := 0, ground := Ground.data }, { on := 4, ground := Ground.data }], guard := none } : Oper)) rfl (fun K hK => ?_) ?_
  · go_simp
    go_at_call 23
    (with_reducible refine (HFO.out _ hHeld).mono ?_)
    rintro e1 W2 ⟨rfl, hb2⟩
    try (have HA := Lib.hid (blk_none HA.out (gb_below hb2)))
    try (have HC := Lib.hid (blk_none HC.out (gb_below hb2)))
    have hHeld2 : (show World → Prop from fun W1 => Below W.drew.heap.size W.drew W1) _ := bl_then hHeld hb2
    refine hK.out _ _ (Or.inr hHeld2) (fun _ => ?_)
    clear hK K hHeld
    try clear hb
    have hHeld := hHeld2
    clear hHeld2
    try simp only [Act.put, List.setIfInBounds_toArray, List.set_cons_zero, List.set_cons_succ]
    refine wpAnyE_take (i := 6) (oi := ({ dst := some 105, op := Op.move (Operand.tmp 111), type := 69, pos := "match.go:137", after := #[{ on := 5, ground := Ground.data }], guard := none } : Oper)) (v := ?_) rfl (by kernel_rfl) (by kernel_rfl) (by kernel_rfl) (by kernel_rfl) (fun _ _ _ h => h) (Or.inl ⟨by rfl, ?_⟩) hHeld ?_
    rotate_left
    · intro w' hSw; (try dsimp only at hSw); go_simp <;> with_reducible rfl
    try simp only [Act.put, List.setIfInBounds_toArray, List.set_cons_zero, List.set_cons_succ]
    refine wpAnyE_take (i := 7) (oi := ({ dst := some 112, op := Op.extract (Operand.tmp 105) 0, type := 68, pos := "match.go:137", after := #[{ on := 6, ground := Ground.data }], guard := none } : Oper)) (v := ?_) rfl (by kernel_rfl) (by kernel_rfl) (by kernel_rfl) (by kernel_rfl) (fun _ _ _ h => h) (Or.inl ⟨by rfl, ?_⟩) hHeld ?_
    rotate_left
    · intro w' hSw; (try dsimp only at hSw); go_simp <;> with_reducible rfl
    try simp only [Act.put, List.setIfInBounds_toArray, List.set_cons_zero, List.set_cons_succ]
    refine wpAnyE_ready (rs := [8, 9, 10]) (by kernel_rfl) (by simp) ?_
    refine AllReadyE.cons (o := ({ dst := some 113, op := Op.extract (Operand.tmp 105) 1, type := 68, pos := "match.go:137", after := #[{ on := 6, ground := Ground.data }, { on := 11, ground := Ground.gcOnly Departure.lateStores }], guard := none } : Oper)) rfl (fun K hK => ?_) ?_
    · go_simp
      have hHeld2 : (show World → Prop from fun W1 => Below W.drew.heap.size W.drew W1) _ := hHeld
      refine hK.out _ _ (Or.inr hHeld2) (fun _ => ?_)
      clear hK K hHeld
      try clear hb
      have hHeld := hHeld2
      clear hHeld2
      try simp only [Act.put, List.setIfInBounds_toArray, List.set_cons_zero, List.set_cons_succ]
      refine wpAnyE_ready (rs := [9, 10]) (by kernel_rfl) (by simp) ?_
      refine AllReadyE.cons (o := ({ dst := some 12, op := Op.alloc 68, type := 0, pos := "match.go:137", after := #[], guard := none } : Oper)) rfl (fun K hK => ?_) ?_
      · rw [if_pos (by rfl)]
        refine wp_alloc_known 68 rfl (faceC face0) (alloc_face _) ?_
        intro W2 ga hb2 hga hla
        have HLA := Lib.hid (Nat.le_trans hHeld.size hla)
        try (have HNE : Hid (ga ≠ gc) := Lib.hid (fun e => by have := (Array.getElem?_eq_some_iff.1 HC.out).1; omega))
        try (have HC := Lib.hid (blk_none HC.out (gb_below hb2)))
        have HA := Lib.hid hga
        clear hga hla
        have hHeld2 : (show World → Prop from fun W1 => Below W.drew.heap.size W.drew W1) _ := bl_then hHeld hb2
        refine hK.out _ _ (Or.inr hHeld2) (fun _ => ?_)
        clear hK K hHeld
        try clear hb
        have hHeld := hHeld2
        clear hHeld2
        try simp only [Act.put, List.setIfInBounds_toArray, List.set_cons_zero, List.set_cons_succ]
        refine wpAnyE_ready (rs := [10]) (by kernel_rfl) (by simp) ?_
        refine AllReadyE.cons (o := ({ dst := some 13, op := Op.alloc 68, type := 0, pos := "match.go:137", after := #[], guard := none } : Oper)) rfl (fun K hK => ?_) AllReadyE.nil
        rw [if_pos (by rfl)]
        refine wp_alloc_known 68 rfl (faceC face0) (alloc_face _) ?_
        intro W2 gc hb2 hgc hlc
        have HLC := Lib.hid (Nat.le_trans hHeld.size hlc)
        try (have HNE : Hid (ga ≠ gc) := Lib.hid (fun e => by have := (Array.getElem?_eq_some_iff.1 HA.out).1; omega))
        try (have HA := Lib.hid (blk_none HA.out (gb_below hb2)))
        have HC := Lib.hid hgc
        clear hgc hlc
        have hHeld2 : (show World → Prop from fun W1 => Below W.drew.heap.size W.drew W1) _ := bl_then hHeld hb2
        refine hK.out _ _ (Or.inr hHeld2) (fun _ => ?_)
        clear hK K hHeld
        try clear hb
        have hHeld := hHeld2
        clear hHeld2
        try simp only [Act.put, List.setIfInBounds_toArray, List.set_cons_zero, List.set_cons_succ]
        refine wpAnyE_ready (rs := [11]) (by kernel_rfl) (by simp) ?_
        refine AllReadyE.cons (o := ({ dst := none, op := Op.store 68 (Operand.tmp 12) (Operand.tmp 112), type := 0, pos := "match.go:137", after := #[{ on := 9, ground := Ground.data }, { on := 7, ground := Ground.data }, { on := 5, ground := Ground.chain }, { on := 0, ground := Ground.phase }, { on := 1, ground := Ground.phase }, { on := 2, ground := Ground.phase }, { on := 3, ground := Ground.phase }, { on := 4, ground := Ground.phase }, { on := 5, ground := Ground.phase }, { on := 6, ground := Ground.phase }, { on := 7, ground := Ground.phase }, { on := 8, ground := Ground.textOnly Departure.lateStores }, { on := 9, ground := Ground.phase }, { on := 10, ground := Ground.phase }], guard := none } : Oper)) rfl (fun K hK => ?_) AllReadyE.nil
        rw [if_pos (by rfl)]
        refine wp_store_known 68 (.tmp 12) (.tmp 112) rfl ⟨ga, 0, none⟩ (.agg (faceC (faceE e.p e.x zs))) rfl rfl (store_face face0 _ _ ga _ HA.out) ?_
        have HB3 := Lib.hid (below_setRow hHeld HLA.out (faceC (faceE e.p e.x zs)))
        have HC3 := Lib.hid ((setRow_other _ ga gc (faceC (faceE e.p e.x zs)) (Ne.symm HNE.out)).trans HC.out)
        have HA3 := Lib.hid (setRow_heap _ ga _ (faceC (faceE e.p e.x zs)) _ _ HA.out)
        refine hK.out _ _ (Or.inl ⟨11, by simp, by kernel_rfl⟩) (fun _ => ?_)
        clear hK K
        try clear hHeld
        try clear hb
        try simp only [Act.put, List.setIfInBounds_toArray, List.set_cons_zero, List.set_cons_succ]
        refine wpAnyE_ready (rs := [12]) (by kernel_rfl) (by simp) ?_
        refine AllReadyE.cons (o := ({ dst := none, op := Op.store 68 (Operand.tmp 13) (Operand.tmp 113), type := 0, pos := "match.go:137", after := #[{ on := 10, ground := Ground.data }, { on := 8, ground := Ground.data }, { on := 11, ground := Ground.chain }, { on := 0, ground := Ground.phase }, { on := 1, ground := Ground.phase }, { on := 2, ground := Ground.phase }, { on := 3, ground := Ground.phase }, { on := 4, ground := Ground.phase }, { on := 5, ground := Ground.phase }, { on := 6, ground := Ground.phase }, { on := 7, ground := Ground.phase }, { on := 8, ground := Ground.phase }, { on := 9, ground := Ground.phase }, { on := 10, ground := Ground.phase }, { on := 11, ground := Ground.phase }], guard := none } : Oper)) rfl (fun K hK => ?_) AllReadyE.nil
        rw [if_pos (by rfl)]
        refine wp_store_known 68 (.tmp 13) (.tmp 113) rfl ⟨gc, 0, none⟩ (.agg (faceC (faceO e.p e.x zs))) rfl rfl (store_face face0 _ _ gc _ HC3.out) ?_
        have HB4 := Lib.hid (below_setRow HB3.out HLC.out (faceC (faceO e.p e.x zs)))
        have HA4 := Lib.hid ((setRow_other _ gc ga (faceC (faceO e.p e.x zs)) HNE.out).trans HA3.out)
        have HC4 := Lib.hid (setRow_heap _ gc _ (faceC (faceO e.p e.x zs)) _ _ HC3.out)
        refine hK.out _ _ (Or.inl ⟨12, by simp, by kernel_rfl⟩) (fun _ => ?_)
        clear hK K
        try clear hHeld
        try clear hb
        try simp only [Act.put, List.setIfInBounds_toArray, List.set_cons_zero, List.set_cons_succ]
        refine wpAnyE_done (by kernel_rfl) ?_ _
        refine hK19 _ _ ?_
        exact add_tail19 (F := F) (w := w) (e := e) _ _ _ _ _ _ _ _ _ _ _ _ _ _ _ _ _ _ _ _ _ _ _ _ _ _ _ _ _ _ _ _ _ _ _ _ _ _ _ _ _ _ _ _ _ _ _ _ _ _ _ _ _ _ _ _ _ _ _ _ _ _ _ _ _ _ _ _ _ _ _ _ _ _ _ _ _ _ _ _ _ _ _ _ _ _ _ _ _ _ _ _ _ _ _ _ _ _ _ _ _ _ _ _ _ _ _ _ _ _ _ _ _ _ _ _ _ _ _ _ _ _ _ _ _ _ _ _ _ _ _ _ _ _ _ _ _ _ _ _ _ _ _ _ _ _ _ _ _ _ _ _ _ _ _ _ _ _ _ _ _ _ _ _ _ _ _ _ _ _ _ _ _ _ _ _ _ _ _ _ _ _ _ _ _ _ _ _ _ _ _ _ _ _ _ _ _ _ _ _ _ _ _ _ _ _ _ _ _ _ _ _ _ _ _ _ _ _ _ _ _ _ _ (HM0.out.grow HB4.out) (HR0.out.grow HB4.out) HWW.out HOO.out HOK.out HSH.out HT.out (HPW.out.below HB4.out) ⟨x, by rw [HE.out], blk_none HSB0.out (gb_below HB4.out)⟩ HA4.out HC4.out HEL.out HZL.out HPL.out HPO.out.none_ HPO.out.some_
      refine AllReadyE.cons (o := ({ dst := some 13, op := Op.alloc 68, type := 0, pos := "match.go:137", after := #[], guard := none } : Oper)) rfl (fun K hK => ?_) AllReadyE.nil
      · rw [if_pos (by rfl)]
        refine wp_alloc_known 68 rfl (faceC face0) (alloc_face _) ?_
        intro W2 gc hb2 hgc hlc
        have HLC := Lib.hid (Nat.le_trans hHeld.size hlc)
        try (have HNE : Hid (ga ≠ gc) := Lib.hid (fun e => by have := (Array.getElem?_eq_some_iff.1 HA.out).1; omega))
        try (have HA := Lib.hid (blk_none HA.out (gb_below hb2)))
        have HC := Lib.hid hgc
        clear hgc hlc
        have hHeld2 : (show World → Prop from fun W1 => Below W.drew.heap.size W.drew W1) _ := bl_then hHeld hb2
        refine hK.out _ _ (Or.inr hHeld2) (fun _ => ?_)
        clear hK K hHeld
        try clear hb
        have hHeld := hHeld2
        clear hHeld2
        try simp only [Act.put, List.setIfInBounds_toArray, List.set_cons_zero, List.set_cons_succ]
        refine wpAnyE_ready (rs := [9]) (by kernel_rfl) (by simp) ?_
        refine AllReadyE.cons (o := ({ dst := some 12, op := Op.alloc 68, type := 0, pos := "match.go:137", after := #[], guard := none } : Oper)) rfl (fun K hK => ?_) AllReadyE.nil
        rw [if_pos (by rfl)]
        refine wp_alloc_known 68 rfl (faceC face0) (alloc_face _) ?_
        intro W2 ga hb2 hga hla
        have HLA := Lib.hid (Nat.le_trans hHeld.size hla)
        try (have HNE : Hid (ga ≠ gc) := Lib.hid (fun e => by have := (Array.getElem?_eq_some_iff.1 HC.out).1; omega))
        try (have HC := Lib.hid (blk_none HC.out (gb_below hb2)))
        have HA := Lib.hid hga
        clear hga hla
        have hHeld2 : (show World → Prop from fun W1 => Below W.drew.heap.size W.drew W1) _ := bl_then hHeld hb2
        refine hK.out _ _ (Or.inr hHeld2) (fun _ => ?_)
        clear hK K hHeld
        try clear hb
        have hHeld := hHeld2
        clear hHeld2
        try simp only [Act.put, List.setIfInBounds_toArray, List.set_cons_zero, List.set_cons_succ]
        refine wpAnyE_ready (rs := [11]) (by kernel_rfl) (by simp) ?_
        refine AllReadyE.cons (o := ({ dst := none, op := Op.store 68 (Operand.tmp 12) (Operand.tmp 112), type := 0, pos := "match.go:137", after := #[{ on := 9, ground := Ground.data }, { on := 7, ground := Ground.data }, { on := 5, ground := Ground.chain }, { on := 0, ground := Ground.phase }, { on := 1, ground := Ground.phase }, { on := 2, ground := Ground.phase }, { on := 3, ground := Ground.phase }, { on := 4, ground := Ground.phase }, { on := 5, ground := Ground.phase }, { on := 6, ground := Ground.phase }, { on := 7, ground := Ground.phase }, { on := 8, ground := Ground.textOnly Departure.lateStores }, { on := 9, ground := Ground.phase }, { on := 10, ground := Ground.phase }], guard := none } : Oper)) rfl (fun K hK => ?_) AllReadyE.nil
        rw [if_pos (by rfl)]
        refine wp_store_known 68 (.tmp 12) (.tmp 112) rfl ⟨ga, 0, none⟩ (.agg (faceC (faceE e.p e.x zs))) rfl rfl (store_face face0 _ _ ga _ HA.out) ?_
        have HB3 := Lib.hid (below_setRow hHeld HLA.out (faceC (faceE e.p e.x zs)))
        have HC3 := Lib.hid ((setRow_other _ ga gc (faceC (faceE e.p e.x zs)) (Ne.symm HNE.out)).trans HC.out)
        have HA3 := Lib.hid (setRow_heap _ ga _ (faceC (faceE e.p e.x zs)) _ _ HA.out)
        refine hK.out _ _ (Or.inl ⟨11, by simp, by kernel_rfl⟩) (fun _ => ?_)
        clear hK K
        try clear hHeld
        try clear hb
        try simp only [Act.put, List.setIfInBounds_toArray, List.set_cons_zero, List.set_cons_succ]
        refine wpAnyE_ready (rs := [12]) (by kernel_rfl) (by simp) ?_
        refine AllReadyE.cons (o := ({ dst := none, op := Op.store 68 (Operand.tmp 13) (Operand.tmp 113), type := 0, pos := "match.go:137", after := #[{ on := 10, ground := Ground.data }, { on := 8, ground := Ground.data }, { on := 11, ground := Ground.chain }, { on := 0, ground := Ground.phase }, { on := 1, ground := Ground.phase }, { on := 2, ground := Ground.phase }, { on := 3, ground := Ground.phase }, { on := 4, ground := Ground.phase }, { on := 5, ground := Ground.phase }, { on := 6, ground := Ground.phase }, { on := 7, ground := Ground.phase }, { on := 8, ground := Ground.phase }, { on := 9, ground := Ground.phase }, { on := 10, ground := Ground.phase }, { on := 11, ground := Ground.phase }], guard := none } : Oper)) rfl (fun K hK => ?_) AllReadyE.nil
        rw [if_pos (by rfl)]
        refine wp_store_known 68 (.tmp 13) (.tmp 113) rfl ⟨gc, 0, none⟩ (.agg (faceC (faceO e.p e.x zs))) rfl rfl (store_face face0 _ _ gc _ HC3.out) ?_
        have HB4 := Lib.hid (below_setRow HB3.out HLC.out (faceC (faceO e.p e.x zs)))
        have HA4 := Lib.hid ((setRow_other _ gc ga (faceC (faceO e.p e.x zs)) HNE.out).trans HA3.out)
        have HC4 := Lib.hid (setRow_heap _ gc _ (faceC (faceO e.p e.x zs)) _ _ HC3.out)
        refine hK.out _ _ (Or.inl ⟨12, by simp, by kernel_rfl⟩) (fun _ => ?_)
        clear hK K
        try clear hHeld
        try clear hb
        try simp only [Act.put, List.setIfInBounds_toArray, List.set_cons_zero, List.set_cons_succ]
        refine wpAnyE_done (by kernel_rfl) ?_ _
        refine hK19 _ _ ?_
        exact add_tail19 (F := F) (w := w) (e := e) _ _ _ _ _ _ _ _ _ _ _ _ _ _ _ _ _ _ _ _ _ _ _ _ _ _ _ _ _ _ _ _ _ _ _ _ _ _ _ _ _ _ _ _ _ _ _ _ _ _ _ _ _ _ _ _ _ _ _ _ _ _ _ _ _ _ _ _ _ _ _ _ _ _ _ _ _ _ _ _ _ _ _ _ _ _ _ _ _ _ _ _ _ _ _ _ _ _ _ _ _ _ _ _ _ _ _ _ _ _ _ _ _ _ _ _ _ _ _ _ _ _ _ _ _ _ _ _ _ _ _ _ _ _ _ _ _ _ _ _ _ _ _ _ _ _ _ _ _ _ _ _ _ _ _ _ _ _ _ _ _ _ _ _ _ _ _ _ _ _ _ _ _ _ _ _ _ _ _ _ _ _ _ _ _ _ _ _ _ _ _ _ _ _ _ _ _ _ _ _ _ _ _ _ _ _ _ _ _ _ _ _ _ _ _ _ _ _ _ _ _ _ _ (HM0.out.grow HB4.out) (HR0.out.grow HB4.out) HWW.out HOO.out HOK.out HSH.out HT.out (HPW.out.below HB4.out) ⟨x, by rw [HE.out], blk_none HSB0.out (gb_below HB4.out)⟩ HA4.out HC4.out HEL.out HZL.out HPL.out HPO.out.none_ HPO.out.some_
    refine AllReadyE.cons (o := ({ dst := some 12, op := Op.alloc 68, type := 0, pos := "match.go:137", after := #[], guard := none } : Oper)) rfl (fun K hK => ?_) ?_
    · rw [if_pos (by rfl)]
      refine wp_alloc_known 68 rfl (faceC face0) (alloc_face _) ?_
      intro W2 ga hb2 hga hla
      have HLA := Lib.hid (Nat.le_trans hHeld.size hla)
      try (have HNE : Hid (ga ≠ gc) := Lib.hid (fun e => by have := (Array.getElem?_eq_some_iff.1 HC.out).1; omega))
      try (have HC := Lib.hid (blk_none HC.out (gb_below hb2)))
      have HA := Lib.hid hga
      clear hga hla
      have hHeld2 : (show World → Prop from fun W1 => Below W.drew.heap.size W.drew W1) _ := bl_then hHeld hb2
      refine hK.out _ _ (Or.inr hHeld2) (fun _ => ?_)
      clear hK K hHeld
      try clear hb
      have hHeld := hHeld2
      clear hHeld2
      try simp only [Act.put, List.setIfInBounds_toArray, List.set_cons_zero, List.set_cons_succ]
      refine wpAnyE_ready (rs := [8, 10]) (by kernel_rfl) (by simp) ?_
      refine AllReadyE.cons (o := ({ dst := some 113, op := Op.extract (Operand.tmp 105) 1, type := 68, pos := "match.go:137", after := #[{ on := 6, ground := Ground.data }, { on := 11, ground := Ground.gcOnly Departure.lateStores }], guard := none } : Oper)) rfl (fun K hK => ?_) ?_
      · go_simp
        have hHeld2 : (show World → Prop from fun W1 => Below W.drew.heap.size W.drew W1) _ := hHeld
        refine hK.out _ _ (Or.inr hHeld2) (fun _ => ?_)
        clear hK K hHeld
        try clear hb
        have hHeld := hHeld2
        clear hHeld2
        try simp only [Act.put, List.setIfInBounds_toArray, List.set_cons_zero, List.set_cons_succ]
        refine wpAnyE_ready (rs := [10]) (by kernel_rfl) (by simp) ?_
        refine AllReadyE.cons (o := ({ dst := some 13, op := Op.alloc 68, type := 0, pos := "match.go:137", after := #[], guard := none } : Oper)) rfl (fun K hK => ?_) AllReadyE.nil
        rw [if_pos (by rfl)]
        refine wp_alloc_known 68 rfl (faceC face0) (alloc_face _) ?_
        intro W2 gc hb2 hgc hlc
        have HLC := Lib.hid (Nat.le_trans hHeld.size hlc)
        try (have HNE : Hid (ga ≠ gc) := Lib.hid (fun e => by have := (Array.getElem?_eq_some_iff.1 HA.out).1; omega))
        try (have HA := Lib.hid (blk_none HA.out (gb_below hb2)))
        have HC := Lib.hid hgc
        clear hgc hlc
        have hHeld2 : (show World → Prop from fun W1 => Below W.drew.heap.size W.drew W1) _ := bl_then hHeld hb2
        refine hK.out _ _ (Or.inr hHeld2) (fun _ => ?_)
        clear hK K hHeld
        try clear hb
        have hHeld := hHeld2
        clear hHeld2
        try simp only [Act.put, List.setIfInBounds_toArray, List.set_cons_zero, List.set_cons_succ]
        refine wpAnyE_ready (rs := [11]) (by kernel_rfl) (by simp) ?_
        refine AllReadyE.cons (o := ({ dst := none, op := Op.store 68 (Operand.tmp 12) (Operand.tmp 112), type := 0, pos := "match.go:137", after := #[{ on := 9, ground := Ground.data }, { on := 7, ground := Ground.data }, { on := 5, ground := Ground.chain }, { on := 0, ground := Ground.phase }, { on := 1, ground := Ground.phase }, { on := 2, ground := Ground.phase }, { on := 3, ground := Ground.phase }, { on := 4, ground := Ground.phase }, { on := 5, ground := Ground.phase }, { on := 6, ground := Ground.phase }, { on := 7, ground := Ground.phase }, { on := 8, ground := Ground.textOnly Departure.lateStores }, { on := 9, ground := Ground.phase }, { on := 10, ground := Ground.phase }], guard := none } : Oper)) rfl (fun K hK => ?_) AllReadyE.nil
        rw [if_pos (by rfl)]
        refine wp_store_known 68 (.tmp 12) (.tmp 112) rfl ⟨ga, 0, none⟩ (.agg (faceC (faceE e.p e.x zs))) rfl rfl (store_face face0 _ _ ga _ HA.out) ?_
        have HB3 := Lib.hid (below_setRow hHeld HLA.out (faceC (faceE e.p e.x zs)))
        have HC3 := Lib.hid ((setRow_other _ ga gc (faceC (faceE e.p e.x zs)) (Ne.symm HNE.out)).trans HC.out)
        have HA3 := Lib.hid (setRow_heap _ ga _ (faceC (faceE e.p e.x zs)) _ _ HA.out)
        refine hK.out _ _ (Or.inl ⟨11, by simp, by kernel_rfl⟩) (fun _ => ?_)
        clear hK K
        try clear hHeld
        try clear hb
        try simp only [Act.put, List.setIfInBounds_toArray, List.set_cons_zero, List.set_cons_succ]
        refine wpAnyE_ready (rs := [12]) (by kernel_rfl) (by simp) ?_
        refine AllReadyE.cons (o := ({ dst := none, op := Op.store 68 (Operand.tmp 13) (Operand.tmp 113), type := 0, pos := "match.go:137", after := #[{ on := 10, ground := Ground.data }, { on := 8, ground := Ground.data }, { on := 11, ground := Ground.chain }, { on := 0, ground := Ground.phase }, { on := 1, ground := Ground.phase }, { on := 2, ground := Ground.phase }, { on := 3, ground := Ground.phase }, { on := 4, ground := Ground.phase }, { on := 5, ground := Ground.phase }, { on := 6, ground := Ground.phase }, { on := 7, ground := Ground.phase }, { on := 8, ground := Ground.phase }, { on := 9, ground := Ground.phase }, { on := 10, ground := Ground.phase }, { on := 11, ground := Ground.phase }], guard := none } : Oper)) rfl (fun K hK => ?_) AllReadyE.nil
        rw [if_pos (by rfl)]
        refine wp_store_known 68 (.tmp 13) (.tmp 113) rfl ⟨gc, 0, none⟩ (.agg (faceC (faceO e.p e.x zs))) rfl rfl (store_face face0 _ _ gc _ HC3.out) ?_
        have HB4 := Lib.hid (below_setRow HB3.out HLC.out (faceC (faceO e.p e.x zs)))
        have HA4 := Lib.hid ((setRow_other _ gc ga (faceC (faceO e.p e.x zs)) HNE.out).trans HA3.out)
        have HC4 := Lib.hid (setRow_heap _ gc _ (faceC (faceO e.p e.x zs)) _ _ HC3.out)
        refine hK.out _ _ (Or.inl ⟨12, by simp, by kernel_rfl⟩) (fun _ => ?_)
        clear hK K
        try clear hHeld
        try clear hb
        try simp only [Act.put, List.setIfInBounds_toArray, List.set_cons_zero, List.set_cons_succ]
        refine wpAnyE_done (by kernel_rfl) ?_ _
        refine hK19 _ _ ?_
        exact add_tail19 (F := F) (w := w) (e := e) _ _ _ _ _ _ _ _ _ _ _ _ _ _ _ _ _ _ _ _ _ _ _ _ _ _ _ _ _ _ _ _ _ _ _ _ _ _ _ _ _ _ _ _ _ _ _ _ _ _ _ _ _ _ _ _ _ _ _ _ _ _ _ _ _ _ _ _ _ _ _ _ _ _ _ _ _ _ _ _ _ _ _ _ _ _ _ _ _ _ _ _ _ _ _ _ _ _ _ _ _ _ _ _ _ _ _ _ _ _ _ _ _ _ _ _ _ _ _ _ _ _ _ _ _ _ _ _ _ _ _ _ _ _ _ _ _ _ _ _ _ _ _ _ _ _ _ _ _ _ _ _ _ _ _ _ _ _ _ _ _ _ _ _ _ _ _ _ _ _ _ _ _ _ _ _ _ _ _ _ _ _ _ _ _ _ _ _ _ _ _ _ _ _ _ _ _ _ _ _ _ _ _ _ _ _ _ _ _ _ _ _ _ _ _ _ _ _ _ _ _ _ _ (HM0.out.grow HB4.out) (HR0.out.grow HB4.out) HWW.out HOO.out HOK.out HSH.out HT.out (HPW.out.below HB4.out) ⟨x, by rw [HE.out], blk_none HSB0.out (gb_below HB4.out)⟩ HA4.out HC4.out HEL.out HZL.out HPL.out HPO.out.none_ HPO.out.some_
      refine AllReadyE.cons (o := ({ dst := some 13, op := Op.alloc 68, type := 0, pos := "match.go:137", after := #[], guard := none } : Oper)) rfl (fun K hK => ?_) AllReadyE.nil
      · rw [if_pos (by rfl)]
        refine wp_alloc_known 68 rfl (faceC face0) (alloc_face _) ?_
        intro W2 gc hb2 hgc hlc
        have HLC := Lib.hid (Nat.le_trans hHeld.size hlc)
        try (have HNE : Hid (ga ≠ gc) := Lib.hid (fun e => by have := (Array.getElem?_eq_some_iff.1 HA.out).1; omega))
        try (have HA := Lib.hid (blk_none HA.out (gb_below hb2)))
        have HC := Lib.hid hgc
        clear hgc hlc
        have hHeld2 : (show World → Prop from fun W1 => Below W.drew.heap.size W.drew W1) _ := bl_then hHeld hb2
        refine hK.out _ _ (Or.inr hHeld2) (fun _ => ?_)
        clear hK K hHeld
        try clear hb
        have hHeld := hHeld2
        clear hHeld2
        try simp only [Act.put, List.setIfInBounds_toArray, List.set_cons_zero, List.set_cons_succ]
        refine wpAnyE_ready (rs := [8, 11]) (by kernel_rfl) (by simp) ?_
        refine AllReadyE.cons (o := ({ dst := some 113, op := Op.extract (Operand.tmp 105) 1, type := 68, pos := "match.go:137", after := #[{ on := 6, ground := Ground.data }, { on := 11, ground := Ground.gcOnly Departure.lateStores }], guard := none } : Oper)) rfl (fun K hK => ?_) ?_
        · go_simp
          have hHeld2 : (show World → Prop from fun W1 => Below W.drew.heap.size W.drew W1) _ := hHeld
          refine hK.out _ _ (Or.inr hHeld2) (fun _ => ?_)
          clear hK K hHeld
          try clear hb
          have hHeld := hHeld2
          clear hHeld2
          try simp only [Act.put, List.setIfInBounds_toArray, List.set_cons_zero, List.set_cons_succ]
          refine wpAnyE_ready (rs := [11]) (by kernel_rfl) (by simp) ?_
          refine AllReadyE.cons (o := ({ dst := none, op := Op.store 68 (Operand.tmp 12) (Operand.tmp 112), type := 0, pos := "match.go:137", after := #[{ on := 9, ground := Ground.data }, { on := 7, ground := Ground.data }, { on := 5, ground := Ground.chain }, { on := 0, ground := Ground.phase }, { on := 1, ground := Ground.phase }, { on := 2, ground := Ground.phase }, { on := 3, ground := Ground.phase }, { on := 4, ground := Ground.phase }, { on := 5, ground := Ground.phase }, { on := 6, ground := Ground.phase }, { on := 7, ground := Ground.phase }, { on := 8, ground := Ground.textOnly Departure.lateStores }, { on := 9, ground := Ground.phase }, { on := 10, ground := Ground.phase }], guard := none } : Oper)) rfl (fun K hK => ?_) AllReadyE.nil
          rw [if_pos (by rfl)]
          refine wp_store_known 68 (.tmp 12) (.tmp 112) rfl ⟨ga, 0, none⟩ (.agg (faceC (faceE e.p e.x zs))) rfl rfl (store_face face0 _ _ ga _ HA.out) ?_
          have HB3 := Lib.hid (below_setRow hHeld HLA.out (faceC (faceE e.p e.x zs)))
          have HC3 := Lib.hid ((setRow_other _ ga gc (faceC (faceE e.p e.x zs)) (Ne.symm HNE.out)).trans HC.out)
          have HA3 := Lib.hid (setRow_heap _ ga _ (faceC (faceE e.p e.x zs)) _ _ HA.out)
          refine hK.out _ _ (Or.inl ⟨11, by simp, by kernel_rfl⟩) (fun _ => ?_)
          clear hK K
          try clear hHeld
          try clear hb
          try simp only [Act.put, List.setIfInBounds_toArray, List.set_cons_zero, List.set_cons_succ]
          refine wpAnyE_ready (rs := [12]) (by kernel_rfl) (by simp) ?_
          refine AllReadyE.cons (o := ({ dst := none, op := Op.store 68 (Operand.tmp 13) (Operand.tmp 113), type := 0, pos := "match.go:137", after := #[{ on := 10, ground := Ground.data }, { on := 8, ground := Ground.data }, { on := 11, ground := Ground.chain }, { on := 0, ground := Ground.phase }, { on := 1, ground := Ground.phase }, { on := 2, ground := Ground.phase }, { on := 3, ground := Ground.phase }, { on := 4, ground := Ground.phase }, { on := 5, ground := Ground.phase }, { on := 6, ground := Ground.phase }, { on := 7, ground := Ground.phase }, { on := 8, ground := Ground.phase }, { on := 9, ground := Ground.phase }, { on := 10, ground := Ground.phase }, { on := 11, ground := Ground.phase }], guard := none } : Oper)) rfl (fun K hK => ?_) AllReadyE.nil
          rw [if_pos (by rfl)]
          refine wp_store_known 68 (.tmp 13) (.tmp 113) rfl ⟨gc, 0, none⟩ (.agg (faceC (faceO e.p e.x zs))) rfl rfl (store_face face0 _ _ gc _ HC3.out) ?_
          have HB4 := Lib.hid (below_setRow HB3.out HLC.out (faceC (faceO e.p e.x zs)))
          have HA4 := Lib.hid ((setRow_other _ gc ga (faceC (faceO e.p e.x zs)) HNE.out).trans HA3.out)
          have HC4 := Lib.hid (setRow_heap _ gc _ (faceC (faceO e.p e.x zs)) _ _ HC3.out)
          refine hK.out _ _ (Or.inl ⟨12, by simp, by kernel_rfl⟩) (fun _ => ?_)
          clear hK K
          try clear hHeld
          try clear hb
          try simp only [Act.put, List.setIfInBounds_toArray, List.set_cons_zero, List.set_cons_succ]
          refine wpAnyE_done (by kernel_rfl) ?_ _
          refine hK19 _ _ ?_
          exact add_tail19 (F := F) (w := w) (e := e) _ _ _ _ _ _ _ _ _ _ _ _ _ _ _ _ _ _ _ _ _ _ _ _ _ _ _ _ _ _ _ _ _ _ _ _ _ _ _ _ _ _ _ _ _ _ _ _ _ _ _ _ _ _ _ _ _ _ _ _ _ _ _ _ _ _ _ _ _ _ _ _ _ _ _ _ _ _ _ _ _ _ _ _ _ _ _ _ _ _ _ _ _ _ _ _ _ _ _ _ _ _ _ _ _ _ _ _ _ _ _ _ _ _ _ _ _ _ _ _ _ _ _ _ _ _ _ _ _ _ _ _ _ _ _ _ _ _ _ _ _ _ _ _ _ _ _ _ _ _ _ _ _ _ _ _ _ _ _ _ _ _ _ _ _ _ _ _ _ _ _ _ _ _ _ _ _ _ _ _ _ _ _ _ _ _ _ _ _ _ _ _ _ _ _ _ _ _ _ _ _ _ _ _ _ _ _ _ _ _ _ _ _ _ _ _ _ _ _ _ _ _ _ (HM0.out.grow HB4.out) (HR0.out.grow HB4.out) HWW.out HOO.out HOK.out HSH.out HT.out (HPW.out.below HB4.out) ⟨x, by rw [HE.out], blk_none HSB0.out (gb_below HB4.out)⟩ HA4.out HC4.out HEL.out HZL.out HPL.out HPO.out.none_ HPO.out.some_
        refine AllReadyE.cons (o := ({ dst := none, op := Op.store 68 (Operand.tmp 12) (Operand.tmp 112), type := 0, pos := "match.go:137", after := #[{ on := 9, ground := Ground.data }, { on := 7, ground := Ground.data }, { on := 5, ground := Ground.chain }, { on := 0, ground := Ground.phase }, { on := 1, ground := Ground.phase }, { on := 2, ground := Ground.phase }, { on := 3, ground := Ground.phase }, { on := 4, ground := Ground.phase }, { on := 5, ground := Ground.phase }, { on := 6, ground := Ground.phase }, { on := 7, ground := Ground.phase }, { on := 8, ground := Ground.textOnly Departure.lateStores }, { on := 9, ground := Ground.phase }, { on := 10, ground := Ground.phase }], guard := none } : Oper)) rfl (fun K hK => ?_) AllReadyE.nil
        · rw [if_pos (by rfl)]
          refine wp_store_known 68 (.tmp 12) (.tmp 112) rfl ⟨ga, 0, none⟩ (.agg (faceC (faceE e.p e.x zs))) rfl rfl (store_face face0 _ _ ga _ HA.out) ?_
          have HB3 := Lib.hid (below_setRow hHeld HLA.out (faceC (faceE e.p e.x zs)))
          have HC3 := Lib.hid ((setRow_other _ ga gc (faceC (faceE e.p e.x zs)) (Ne.symm HNE.out)).trans HC.out)
          have HA3 := Lib.hid (setRow_heap _ ga _ (faceC (faceE e.p e.x zs)) _ _ HA.out)
          refine hK.out _ _ (Or.inl ⟨11, by simp, by kernel_rfl⟩) (fun _ => ?_)
          clear hK K
          try clear hHeld
          try clear hb
          try simp only [Act.put, List.setIfInBounds_toArray, List.set_cons_zero, List.set_cons_succ]
          refine wpAnyE_ready (rs := [8]) (by kernel_rfl) (by simp) ?_
          refine AllReadyE.cons (o := ({ dst := some 113, op := Op.extract (Operand.tmp 105) 1, type := 68, pos := "match.go:137", after := #[{ on := 6, ground := Ground.data }, { on := 11, ground := Ground.gcOnly Departure.lateStores }], guard := none } : Oper)) rfl (fun K hK => ?_) AllReadyE.nil
          go_simp
          refine hK.out _ _ (Or.inl ⟨11, by simp, by kernel_rfl⟩) (fun _ => ?_)
          clear hK K
          try clear hHeld
          try clear hb
          try simp only [Act.put, List.setIfInBounds_toArray, List.set_cons_zero, List.set_cons_succ]
          refine wpAnyE_ready (rs := [12]) (by kernel_rfl) (by simp) ?_
          refine AllReadyE.cons (o := ({ dst := none, op := Op.store 68 (Operand.tmp 13) (Operand.tmp 113), type := 0, pos := "match.go:137", after := #[{ on := 10, ground := Ground.data }, { on := 8, ground := Ground.data }, { on := 11, ground := Ground.chain }, { on := 0, ground := Ground.phase }, { on := 1, ground := Ground.phase }, { on := 2, ground := Ground.phase }, { on := 3, ground := Ground.phase }, { on := 4, ground := Ground.phase }, { on := 5, ground := Ground.phase }, { on := 6, ground := Ground.phase }, { on := 7, ground := Ground.phase }, { on := 8, ground := Ground.phase }, { on := 9, ground := Ground.phase }, { on := 10, ground := Ground.phase }, { on := 11, ground := Ground.phase }], guard := none } : Oper)) rfl (fun K hK => ?_) AllReadyE.nil
          rw [if_pos (by rfl)]
          refine wp_store_known 68 (.tmp 13) (.tmp 113) rfl ⟨gc, 0, none⟩ (.agg (faceC (faceO e.p e.x zs))) rfl rfl (store_face face0 _ _ gc _ HC3.out) ?_
          have HB4 := Lib.hid (below_setRow HB3.out HLC.out (faceC (faceO e.p e.x zs)))
          have HA4 := Lib.hid ((setRow_other _ gc ga (faceC (faceO e.p e.x zs)) HNE.out).trans HA3.out)
          have HC4 := Lib.hid (setRow_heap _ gc _ (faceC (faceO e.p e.x zs)) _ _ HC3.out)
          refine hK.out _ _ (Or.inl ⟨12, by simp, by kernel_rfl⟩) (fun _ => ?_)
          clear hK K
          try clear hHeld
          try clear hb
          try simp only [Act.put, List.setIfInBounds_toArray, List.set_cons_zero, List.set_cons_succ]
          refine wpAnyE_done (by kernel_rfl) ?_ _
          refine hK19 _ _ ?_
          exact add_tail19 (F := F) (w := w) (e := e) _ _ _ _ _ _ _ _ _ _ _ _ _ _ _ _ _ _ _ _ _ _ _ _ _ _ _ _ _ _ _ _ _ _ _ _ _ _ _ _ _ _ _ _ _ _ _ _ _ _ _ _ _ _ _ _ _ _ _ _ _ _ _ _ _ _ _ _ _ _ _ _ _ _ _ _ _ _ _ _ _ _ _ _ _ _ _ _ _ _ _ _ _ _ _ _ _ _ _ _ _ _ _ _ _ _ _ _ _ _ _ _ _ _ _ _ _ _ _ _ _ _ _ _ _ _ _ _ _ _ _ _ _ _ _ _ _ _ _ _ _ _ _ _ _ _ _ _ _ _ _ _ _ _ _ _ _ _ _ _ _ _ _ _ _ _ _ _ _ _ _ _ _ _ _ _ _ _ _ _ _ _ _ _ _ _ _ _ _ _ _ _ _ _ _ _ _ _ _ _ _ _ _ _ _ _ _ _ _ _ _ _ _ _ _ _ _ _ _ _ _ _ _ (HM0.out.grow HB4.out) (HR0.out.grow HB4.out) HWW.out HOO.out HOK.out HSH.out HT.out (HPW.out.below HB4.out) ⟨x, by rw [HE.out], blk_none HSB0.out (gb_below HB4.out)⟩ HA4.out HC4.out HEL.out HZL.out HPL.out HPO.out.none_ HPO.out.some_
    refine AllReadyE.cons (o := ({ dst := some 13, op := Op.alloc 68, type := 0, pos := "match.go:137", after := #[], guard := none } : Oper)) rfl (fun K hK => ?_) AllReadyE.nil
    · rw [if_pos (by rfl)]
      refine wp_alloc_known 68 rfl (faceC face0) (alloc_face _) ?_
      intro W2 gc hb2 hgc hlc
      have HLC := Lib.hid (Nat.le_trans hHeld.size hlc)
      try (have HNE : Hid (ga ≠ gc) := Lib.hid (fun e => by have := (Array.getElem?_eq_some_iff.1 HA.out).1; omega))
      try (have HA := Lib.hid (blk_none HA.out (gb_below hb2)))
      have HC := Lib.hid hgc
      clear hgc hlc
      have hHeld2 : (show World → Prop from fun W1 => Below W.drew.heap.size W.drew W1) _ := bl_then hHeld hb2
      refine hK.out _ _ (Or.inr hHeld2) (fun _ => ?_)
      clear hK K hHeld
      try clear hb
      have hHeld := hHeld2
      clear hHeld2
      try simp only [Act.put, List.setIfInBounds_toArray, List.set_cons_zero, List.set_cons_succ]
      refine wpAnyE_ready (rs := [8, 9]) (by kernel_rfl) (by simp) ?_
      refine AllReadyE.cons (o := ({ dst := some 113, op := Op.extract (Operand.tmp 105) 1, type := 68, pos := "match.go:137", after := #[{ on := 6, ground := Ground.data }, { on := 11, ground := Ground.gcOnly Departure.lateStores }], guard := none } : Oper)) rfl (fun K hK => ?_) ?_
      · go_simp
        have hHeld2 : (show World → Prop from fun W1 => Below W.drew.heap.size W.drew W1) _ := hHeld
        refine hK.out _ _ (Or.inr hHeld2) (fun _ => ?_)
        clear hK K hHeld
        try clear hb
        have hHeld := hHeld2
        clear hHeld2
        try simp only [Act.put, List.setIfInBounds_toArray, List.set_cons_zero, List.set_cons_succ]
        refine wpAnyE_ready (rs := [9]) (by kernel_rfl) (by simp) ?_
        refine AllReadyE.cons (o := ({ dst := some 12, op := Op.alloc 68, type := 0, pos := "match.go:137", after := #[], guard := none } : Oper)) rfl (fun K hK => ?_) AllReadyE.nil
        rw [if_pos (by rfl)]
        refine wp_alloc_known 68 rfl (faceC face0) (alloc_face _) ?_
        intro W2 ga hb2 hga hla
        have HLA := Lib.hid (Nat.le_trans hHeld.size hla)
        try (have HNE : Hid (ga ≠ gc) := Lib.hid (fun e => by have := (Array.getElem?_eq_some_iff.1 HC.out).1; omega))
        try (have HC := Lib.hid (blk_none HC.out (gb_below hb2)))
        have HA := Lib.hid hga
        clear hga hla
        have hHeld2 : (show World → Prop from fun W1 => Below W.drew.heap.size W.drew W1) _ := bl_then hHeld hb2
        refine hK.out _ _ (Or.inr hHeld2) (fun _ => ?_)
        clear hK K hHeld
        try clear hb
        have hHeld := hHeld2
        clear hHeld2
        try simp only [Act.put, List.setIfInBounds_toArray, List.set_cons_zero, List.set_cons_succ]
        refine wpAnyE_ready (rs := [11]) (by kernel_rfl) (by simp) ?_
        refine AllReadyE.cons (o := ({ dst := none, op := Op.store 68 (Operand.tmp 12) (Operand.tmp 112), type := 0, pos := "match.go:137", after := #[{ on := 9, ground := Ground.data }, { on := 7, ground := Ground.data }, { on := 5, ground := Ground.chain }, { on := 0, ground := Ground.phase }, { on := 1, ground := Ground.phase }, { on := 2, ground := Ground.phase }, { on := 3, ground := Ground.phase }, { on := 4, ground := Ground.phase }, { on := 5, ground := Ground.phase }, { on := 6, ground := Ground.phase }, { on := 7, ground := Ground.phase }, { on := 8, ground := Ground.textOnly Departure.lateStores }, { on := 9, ground := Ground.phase }, { on := 10, ground := Ground.phase }], guard := none } : Oper)) rfl (fun K hK => ?_) AllReadyE.nil
        rw [if_pos (by rfl)]
        refine wp_store_known 68 (.tmp 12) (.tmp 112) rfl ⟨ga, 0, none⟩ (.agg (faceC (faceE e.p e.x zs))) rfl rfl (store_face face0 _ _ ga _ HA.out) ?_
        have HB3 := Lib.hid (below_setRow hHeld HLA.out (faceC (faceE e.p e.x zs)))
        have HC3 := Lib.hid ((setRow_other _ ga gc (faceC (faceE e.p e.x zs)) (Ne.symm HNE.out)).trans HC.out)
        have HA3 := Lib.hid (setRow_heap _ ga _ (faceC (faceE e.p e.x zs)) _ _ HA.out)
        refine hK.out _ _ (Or.inl ⟨11, by simp, by kernel_rfl⟩) (fun _ => ?_)
        clear hK K
        try clear hHeld
        try clear hb
        try simp only [Act.put, List.setIfInBounds_toArray, List.set_cons_zero, List.set_cons_succ]
        refine wpAnyE_ready (rs := [12]) (by kernel_rfl) (by simp) ?_
        refine AllReadyE.cons (o := ({ dst := none, op := Op.store 68 (Operand.tmp 13) (Operand.tmp 113), type := 0, pos := "match.go:137", after := #[{ on := 10, ground := Ground.data }, { on := 8, ground := Ground.data }, { on := 11, ground := Ground.chain }, { on := 0, ground := Ground.phase }, { on := 1, ground := Ground.phase }, { on := 2, ground := Ground.phase }, { on := 3, ground := Ground.phase }, { on := 4, ground := Ground.phase }, { on := 5, ground := Ground.phase }, { on := 6, ground := Ground.phase }, { on := 7, ground := Ground.phase }, { on := 8, ground := Ground.phase }, { on := 9, ground := Ground.phase }, { on := 10, ground := Ground.phase }, { on := 11, ground := Ground.phase }], guard := none } : Oper)) rfl (fun K hK => ?_) AllReadyE.nil
        rw [if_pos (by rfl)]
        refine wp_store_known 68 (.tmp 13) (.tmp 113) rfl ⟨gc, 0, none⟩ (.agg (faceC (faceO e.p e.x zs))) rfl rfl (store_face face0 _ _ gc _ HC3.out) ?_
        have HB4 := Lib.hid (below_setRow HB3.out HLC.out (faceC (faceO e.p e.x zs)))
        have HA4 := Lib.hid ((setRow_other _ gc ga (faceC (faceO e.p e.x zs)) HNE.out).trans HA3.out)
        have HC4 := Lib.hid (setRow_heap _ gc _ (faceC (faceO e.p e.x zs)) _ _ HC3.out)
        refine hK.out _ _ (Or.inl ⟨12, by simp, by kernel_rfl⟩) (fun _ => ?_)
        clear hK K
        try clear hHeld
        try clear hb
        try simp only [Act.put, List.setIfInBounds_toArray, List.set_cons_zero, List.set_cons_succ]
        refine wpAnyE_done (by kernel_rfl) ?_ _
        refine hK19 _ _ ?_
        exact add_tail19 (F := F) (w := w) (e := e) _ _ _ _ _ _ _ _ _ _ _ _ _ _ _ _ _ _ _ _ _ _ _ _ _ _ _ _ _ _ _ _ _ _ _ _ _ _ _ _ _ _ _ _ _ _ _ _ _ _ _ _ _ _ _ _ _ _ _ _ _ _ _ _ _ _ _ _ _ _ _ _ _ _ _ _ _ _ _ _ _ _ _ _ _ _ _ _ _ _ _ _ _ _ _ _ _ _ _ _ _ _ _ _ _ _ _ _ _ _ _ _ _ _ _ _ _ _ _ _ _ _ _ _ _ _ _ _ _ _ _ _ _ _ _ _ _ _ _ _ _ _ _ _ _ _ _ _ _ _ _ _ _ _ _ _ _ _ _ _ _ _ _ _ _ _ _ _ _ _ _ _ _ _ _ _ _ _ _ _ _ _ _ _ _ _ _ _ _ _ _ _ _ _ _ _ _ _ _ _ _ _ _ _ _ _ _ _ _ _ _ _ _ _ _ _ _ _ _ _ _ _ _ (HM0.out.grow HB4.out) (HR0.out.grow HB4.out) HWW.out HOO.out HOK.out HSH.out HT.out (HPW.out.below HB4.out) ⟨x, by rw [HE.out], blk_none HSB0.out (gb_below HB4.out)⟩ HA4.out HC4.out HEL.out HZL.out HPL.out HPO.out.none_ HPO.out.some_
      refine AllReadyE.cons (o := ({ dst := some 12, op := Op.alloc 68, type := 0, pos := "match.go:137", after := #[], guard := none } : Oper)) rfl (fun K hK => ?_) AllReadyE.nil
      · rw [if_pos (by rfl)]
        refine wp_alloc_known 68 rfl (faceC face0) (alloc_face _) ?_
        intro W2 ga hb2 hga hla
        have HLA := Lib.hid (Nat.le_trans hHeld.size hla)
        try (have HNE : Hid (ga ≠ gc) := Lib.hid (fun e => by have := (Array.getElem?_eq_some_iff.1 HC.out).1; omega))
        try (have HC := Lib.hid (blk_none HC.out (gb_below hb2)))
        have HA := Lib.hid hga
        clear hga hla
        have hHeld2 : (show World → Prop from fun W1 => Below W.drew.heap.size W.drew W1) _ := bl_then hHeld hb2
        refine hK.out _ _ (Or.inr hHeld2) (fun _ => ?_)
        clear hK K hHeld
        try clear hb
        have hHeld := hHeld2
        clear hHeld2
        try simp only [Act.put, List.setIfInBounds_toArray, List.set_cons_zero, List.set_cons_succ]
        refine wpAnyE_ready (rs := [8, 11]) (by kernel_rfl) (by simp) ?_
        refine AllReadyE.cons (o := ({ dst := some 113, op := Op.extract (Operand.tmp 105) 1, type := 68, pos := "match.go:137", after := #[{ on := 6, ground := Ground.data }, { on := 11, ground := Ground.gcOnly Departure.lateStores }], guard := none } : Oper)) rfl (fun K hK => ?_) ?_
        · go_simp
          have hHeld2 : (show World → Prop from fun W1 => Below W.drew.heap.size W.drew W1) _ := hHeld
          refine hK.out _ _ (Or.inr hHeld2) (fun _ => ?_)
          clear hK K hHeld
          try clear hb
          have hHeld := hHeld2
          clear hHeld2
          try simp only [Act.put, List.setIfInBounds_toArray, List.set_cons_zero, List.set_cons_succ]
          refine wpAnyE_ready (rs := [11]) (by kernel_rfl) (by simp) ?_
          refine AllReadyE.cons (o := ({ dst := none, op := Op.store 68 (Operand.tmp 12) (Operand.tmp 112), type := 0, pos := "match.go:137", after := #[{ on := 9, ground := Ground.data }, { on := 7, ground := Ground.data }, { on := 5, ground := Ground.chain }, { on := 0, ground := Ground.phase }, { on := 1, ground := Ground.phase }, { on := 2, ground := Ground.phase }, { on := 3, ground := Ground.phase }, { on := 4, ground := Ground.phase }, { on := 5, ground := Ground.phase }, { on := 6, ground := Ground.phase }, { on := 7, ground := Ground.phase }, { on := 8, ground := Ground.textOnly Departure.lateStores }, { on := 9, ground := Ground.phase }, { on := 10, ground := Ground.phase }], guard := none } : Oper)) rfl (fun K hK => ?_) AllReadyE.nil
          rw [if_pos (by rfl)]
          refine wp_store_known 68 (.tmp 12) (.tmp 112) rfl ⟨ga, 0, none⟩ (.agg (faceC (faceE e.p e.x zs))) rfl rfl (store_face face0 _ _ ga _ HA.out) ?_
          have HB3 := Lib.hid (below_setRow hHeld HLA.out (faceC (faceE e.p e.x zs)))
          have HC3 := Lib.hid ((setRow_other _ ga gc (faceC (faceE e.p e.x zs)) (Ne.symm HNE.out)).trans HC.out)
          have HA3 := Lib.hid (setRow_heap _ ga _ (faceC (faceE e.p e.x zs)) _ _ HA.out)
          refine hK.out _ _ (Or.inl ⟨11, by simp, by kernel_rfl⟩) (fun _ => ?_)
          clear hK K
          try clear hHeld
          try clear hb
          try simp only [Act.put, List.setIfInBounds_toArray, List.set_cons_zero, List.set_cons_succ]
          refine wpAnyE_ready (rs := [12]) (by kernel_rfl) (by simp) ?_
          refine AllReadyE.cons (o := ({ dst := none, op := Op.store 68 (Operand.tmp 13) (Operand.tmp 113), type := 0, pos := "match.go:137", after := #[{ on := 10, ground := Ground.data }, { on := 8, ground := Ground.data }, { on := 11, ground := Ground.chain }, { on := 0, ground := Ground.phase }, { on := 1, ground := Ground.phase }, { on := 2, ground := Ground.phase }, { on := 3, ground := Ground.phase }, { on := 4, ground := Ground.phase }, { on := 5, ground := Ground.phase }, { on := 6, ground := Ground.phase }, { on := 7, ground := Ground.phase }, { on := 8, ground := Ground.phase }, { on := 9, ground := Ground.phase }, { on := 10, ground := Ground.phase }, { on := 11, ground := Ground.phase }], guard := none } : Oper)) rfl (fun K hK => ?_) AllReadyE.nil
          rw [if_pos (by rfl)]
          refine wp_store_known 68 (.tmp 13) (.tmp 113) rfl ⟨gc, 0, none⟩ (.agg (faceC (faceO e.p e.x zs))) rfl rfl (store_face face0 _ _ gc _ HC3.out) ?_
          have HB4 := Lib.hid (below_setRow HB3.out HLC.out (faceC (faceO e.p e.x zs)))
          have HA4 := Lib.hid ((setRow_other _ gc ga (faceC (faceO e.p e.x zs)) HNE.out).trans HA3.out)
          have HC4 := Lib.hid (setRow_heap _ gc _ (faceC (faceO e.p e.x zs)) _ _ HC3.out)
          refine hK.out _ _ (Or.inl ⟨12, by simp, by kernel_rfl⟩) (fun _ => ?_)
          clear hK K
          try clear hHeld
          try clear hb
          try simp only [Act.put, List.setIfInBounds_toArray, List.set_cons_zero, List.set_cons_succ]
          refine wpAnyE_done (by kernel_rfl) ?_ _
          refine hK19 _ _ ?_
          exact add_tail19 (F := F) (w := w) (e := e) _ _ _ _ _ _ _ _ _ _ _ _ _ _ _ _ _ _ _ _ _ _ _ _ _ _ _ _ _ _ _ _ _ _ _ _ _ _ _ _ _ _ _ _ _ _ _ _ _ _ _ _ _ _ _ _ _ _ _ _ _ _ _ _ _ _ _ _ _ _ _ _ _ _ _ _ _ _ _ _ _ _ _ _ _ _ _ _ _ _ _ _ _ _ _ _ _ _ _ _ _ _ _ _ _ _ _ _ _ _ _ _ _ _ _ _ _ _ _ _ _ _ _ _ _ _ _ _ _ _ _ _ _ _ _ _ _ _ _ _ _ _ _ _ _ _ _ _ _ _ _ _ _ _ _ _ _ _ _ _ _ _ _ _ _ _ _ _ _ _ _ _ _ _ _ _ _ _ _ _ _ _ _ _ _ _ _ _ _ _ _ _ _ _ _ _ _ _ _ _ _ _ _ _ _ _ _ _ _ _ _ _ _ _ _ _ _ _ _ _ _ _ _ (HM0.out.grow HB4.out) (HR0.out.grow HB4.out) HWW.out HOO.out HOK.out HSH.out HT.out (HPW.out.below HB4.out) ⟨x, by rw [HE.out], blk_none HSB0.out (gb_below HB4.out)⟩ HA4.out HC4.out HEL.out HZL.out HPL.out HPO.out.none_ HPO.out.some_
        refine AllReadyE.cons (o := ({ dst := none, op := Op.store 68 (Operand.tmp 12) (Operand.tmp 112), type := 0, pos := "match.go:137", after := #[{ on := 9, ground := Ground.data }, { on := 7, ground := Ground.data }, { on := 5, ground := Ground.chain }, { on := 0, ground := Ground.phase }, { on := 1, ground := Ground.phase }, { on := 2, ground := Ground.phase }, { on := 3, ground := Ground.phase }, { on := 4, ground := Ground.phase }, { on := 5, ground := Ground.phase }, { on := 6, ground := Ground.phase }, { on := 7, ground := Ground.phase }, { on := 8, ground := Ground.textOnly Departure.lateStores }, { on := 9, ground := Ground.phase }, { on := 10, ground := Ground.phase }], guard := none } : Oper)) rfl (fun K hK => ?_) AllReadyE.nil
        · rw [if_pos (by rfl)]
          refine wp_store_known 68 (.tmp 12) (.tmp 112) rfl ⟨ga, 0, none⟩ (.agg (faceC (faceE e.p e.x zs))) rfl rfl (store_face face0 _ _ ga _ HA.out) ?_
          have HB3 := Lib.hid (below_setRow hHeld HLA.out (faceC (faceE e.p e.x zs)))
          have HC3 := Lib.hid ((setRow_other _ ga gc (faceC (faceE e.p e.x zs)) (Ne.symm HNE.out)).trans HC.out)
          have HA3 := Lib.hid (setRow_heap _ ga _ (faceC (faceE e.p e.x zs)) _ _ HA.out)
          refine hK.out _ _ (Or.inl ⟨11, by simp, by kernel_rfl⟩) (fun _ => ?_)
          clear hK K
          try clear hHeld
          try clear hb
          try simp only [Act.put, List.setIfInBounds_toArray, List.set_cons_zero, List.set_cons_succ]
          refine wpAnyE_ready (rs := [8]) (by kernel_rfl) (by simp) ?_
          refine AllReadyE.cons (o := ({ dst := some 113, op := Op.extract (Operand.tmp 105) 1, type := 68, pos := "match.go:137", after := #[{ on := 6, ground := Ground.data }, { on := 11, ground := Ground.gcOnly Departure.lateStores }], guard := none } : Oper)) rfl (fun K hK => ?_) AllReadyE.nil
          go_simp
          refine hK.out _ _ (Or.inl ⟨11, by simp, by kernel_rfl⟩) (fun _ => ?_)
          clear hK K
          try clear hHeld
          try clear hb
          try simp only [Act.put, List.setIfInBounds_toArray, List.set_cons_zero, List.set_cons_succ]
          refine wpAnyE_ready (rs := [12]) (by kernel_rfl) (by simp) ?_
          refine AllReadyE.cons (o := ({ dst := none, op := Op.store 68 (Operand.tmp 13) (Operand.tmp 113), type := 0, pos := "match.go:137", after := #[{ on := 10, ground := Ground.data }, { on := 8, ground := Ground.data }, { on := 11, ground := Ground.chain }, { on := 0, ground := Ground.phase }, { on := 1, ground := Ground.phase }, { on := 2, ground := Ground.phase }, { on := 3, ground := Ground.phase }, { on := 4, ground := Ground.phase }, { on := 5, ground := Ground.phase }, { on := 6, ground := Ground.phase }, { on := 7, ground := Ground.phase }, { on := 8, ground := Ground.phase }, { on := 9, ground := Ground.phase }, { on := 10, ground := Ground.phase }, { on := 11, ground := Ground.phase }], guard := none } : Oper)) rfl (fun K hK => ?_) AllReadyE.nil
          rw [if_pos (by rfl)]
          refine wp_store_known 68 (.tmp 13) (.tmp 113) rfl ⟨gc, 0, none⟩ (.agg (faceC (faceO e.p e.x zs))) rfl rfl (store_face face0 _ _ gc _ HC3.out) ?_
          have HB4 := Lib.hid (below_setRow HB3.out HLC.out (faceC (faceO e.p e.x zs)))
          have HA4 := Lib.hid ((setRow_other _ gc ga (faceC (faceO e.p e.x zs)) HNE.out).trans HA3.out)
          have HC4 := Lib.hid (setRow_heap _ gc _ (faceC (faceO e.p e.x zs)) _ _ HC3.out)
          refine hK.out _ _ (Or.inl ⟨12, by simp, by kernel_rfl⟩) (fun _ => ?_)
          clear hK K
          try clear hHeld
          try clear hb
          try simp only [Act.put, List.setIfInBounds_toArray, List.set_cons_zero, List.set_cons_succ]
          refine wpAnyE_done (by kernel_rfl) ?_ _
          refine hK19 _ _ ?_
          exact add_tail19 (F := F) (w := w) (e := e) _ _ _ _ _ _ _ _ _ _ _ _ _ _ _ _ _ _ _ _ _ _ _ _ _ _ _ _ _ _ _ _ _ _ _ _ _ _ _ _ _ _ _ _ _ _ _ _ _ _ _ _ _ _ _ _ _ _ _ _ _ _ _ _ _ _ _ _ _ _ _ _ _ _ _ _ _ _ _ _ _ _ _ _ _ _ _ _ _ _ _ _ _ _ _ _ _ _ _ _ _ _ _ _ _ _ _ _ _ _ _ _ _ _ _ _ _ _ _ _ _ _ _ _ _ _ _ _ _ _ _ _ _ _ _ _ _ _ _ _ _ _ _ _ _ _ _ _ _ _ _ _ _ _ _ _ _ _ _ _ _ _ _ _ _ _ _ _ _ _ _ _ _ _ _ _ _ _ _ _ _ _ _ _ _ _ _ _ _ _ _ _ _ _ _ _ _ _ _ _ _ _ _ _ _ _ _ _ _ _ _ _ _ _ _ _ _ _ _ _ _ _ _ (HM0.out.grow HB4.out) (HR0.out.grow HB4.out) HWW.out HOO.out HOK.out HSH.out HT.out (HPW.out.below HB4.out) ⟨x, by rw [HE.out], blk_none HSB0.out (gb_below HB4.out)⟩ HA4.out HC4.out HEL.out HZL.out HPL.out HPO.out.none_ HPO.out.some_
  refine AllReadyE.cons (o := ({ dst := some 12, op := Op.alloc 68, type := 0, pos := "match.go:137", after := #[], guard := none } : Oper)) rfl (fun K hK => ?_) ?_
  · rw [if_pos (by rfl)]
    refine wp_alloc_known 68 rfl (faceC face0) (alloc_face _) ?_
    intro W2 ga hb2 hga hla
    have HLA := Lib.hid (Nat.le_trans hHeld.size hla)
    try (have HNE : Hid (ga ≠ gc) := Lib.hid (fun e => by have := (Array.getElem?_eq_some_iff.1 HC.out).1; omega))
    try (have HC := Lib.hid (blk_none HC.out (gb_below hb2)))
    have HA := Lib.hid hga
    clear hga hla
    have hHeld2 : (show World → Prop from fun W1 => Below W.drew.heap.size W.drew W1) _ := bl_then hHeld hb2
    refine hK.out _ _ (Or.inr hHeld2) (fun _ => ?_)
    clear hK K hHeld
    try clear hb
    have hHeld := hHeld2
    clear hHeld2
    try simp only [Act.put, List.setIfInBounds_toArray, List.set_cons_zero, List.set_cons_succ]
    refine wpAnyE_ready (rs := [5, 10]) (by kernel_rfl) (by simp) ?_
    refine AllReadyE.cons (o := ({ dst := some 111, op := Op.call { callee := Callee.value (Operand.func 23), args := #[Operand.tmp 106, Operand.tmp 110], argTypes := #[28, 29] }, type := 69, pos := "match.go:137", after := #[{ on := 0, ground := Ground.data }, { on := 4, ground := Ground.data }], guard := none } : Oper)) rfl (fun K hK => ?_) ?_
    · go_simp
      go_at_call 23
      (with_reducible refine (HFO.out _ hHeld).mono ?_)
      rintro e1 W2 ⟨rfl, hb2⟩
      try (have HA := Lib.hid (blk_none HA.out (gb_below hb2)))
      try (have HC := Lib.hid (blk_none HC.out (gb_below hb2)))
      have hHeld2 : (show World → Prop from fun W1 => Below W.drew.heap.size W.drew W1) _ := bl_then hHeld hb2
      refine hK.out _ _ (Or.inr hHeld2) (fun _ => ?_)
      clear hK K hHeld
      try clear hb
      have hHeld := hHeld2
      clear hHeld2
      try simp only [Act.put, List.setIfInBounds_toArray, List.set_cons_zero, List.set_cons_succ]
      refine wpAnyE_take (i := 6) (oi := ({ dst := some 105, op := Op.move (Operand.tmp 111), type := 69, pos := "match.go:137", after := #[{ on := 5, ground := Ground.data }], guard := none } : Oper)) (v := ?_) rfl (by kernel_rfl) (by kernel_rfl) (by kernel_rfl) (by kernel_rfl) (fun _ _ _ h => h) (Or.inl ⟨by rfl, ?_⟩) hHeld ?_
      rotate_left
      · intro w' hSw; (try dsimp only at hSw); go_simp <;> with_reducible rfl
      try simp only [Act.put, List.setIfInBounds_toArray, List.set_cons_zero, List.set_cons_succ]
      refine wpAnyE_take (i := 7) (oi := ({ dst := some 112, op := Op.extract (Operand.tmp 105) 0, type := 68, pos := "match.go:137", after := #[{ on := 6, ground := Ground.data }], guard := none } : Oper)) (v := ?_) rfl (by kernel_rfl) (by kernel_rfl) (by kernel_rfl) (by kernel_rfl) (fun _ _ _ h => h) (Or.inl ⟨by rfl, ?_⟩) hHeld ?_
      rotate_left
      · intro w' hSw; (try dsimp only at hSw); go_simp <;> with_reducible rfl
      try simp only [Act.put, List.setIfInBounds_toArray, List.set_cons_zero, List.set_cons_succ]
      refine wpAnyE_ready (rs := [8, 10]) (by kernel_rfl) (by simp) ?_
      refine AllReadyE.cons (o := ({ dst := some 113, op := Op.extract (Operand.tmp 105) 1, type := 68, pos := "match.go:137", after := #[{ on := 6, ground := Ground.data }, { on := 11, ground := Ground.gcOnly Departure.lateStores }], guard := none } : Oper)) rfl (fun K hK => ?_) ?_
      · go_simp
        have hHeld2 : (show World → Prop from fun W1 => Below W.drew.heap.size W.drew W1) _ := hHeld
        refine hK.out _ _ (Or.inr hHeld2) (fun _ => ?_)
        clear hK K hHeld
        try clear hb
        have hHeld := hHeld2
        clear hHeld2
        try simp only [Act.put, List.setIfInBounds_toArray, List.set_cons_zero, List.set_cons_succ]
        refine wpAnyE_ready (rs := [10]) (by kernel_rfl) (by simp) ?_
        refine AllReadyE.cons (o := ({ dst := some 13, op := Op.alloc 68, type := 0, pos := "match.go:137", after := #[], guard := none } : Oper)) rfl (fun K hK => ?_) AllReadyE.nil
        rw [if_pos (by rfl)]
        refine wp_alloc_known 68 rfl (faceC face0) (alloc_face _) ?_
        intro W2 gc hb2 hgc hlc
        have HLC := Lib.hid (Nat.le_trans hHeld.size hlc)
        try (have HNE : Hid (ga ≠ gc) := Lib.hid (fun e => by have := (Array.getElem?_eq_some_iff.1 HA.out).1; omega))
        try (have HA := Lib.hid (blk_none HA.out (gb_below hb2)))
        have HC := Lib.hid hgc
        clear hgc hlc
        have hHeld2 : (show World → Prop from fun W1 => Below W.drew.heap.size W.drew W1) _ := bl_then hHeld hb2
        refine hK.out _ _ (Or.inr hHeld2) (fun _ => ?_)
        clear hK K hHeld
        try clear hb
        have hHeld := hHeld2
        clear hHeld2
        try simp only [Act.put, List.setIfInBounds_toArray, List.set_cons_zero, List.set_cons_succ]
        refine wpAnyE_ready (rs := [11]) (by kernel_rfl) (by simp) ?_
        refine AllReadyE.cons (o := ({ dst := none, op := Op.store 68 (Operand.tmp 12) (Operand.tmp 112), type := 0, pos := "match.go:137", after := #[{ on := 9, ground := Ground.data }, { on := 7, ground := Ground.data }, { on := 5, ground := Ground.chain }, { on := 0, ground := Ground.phase }, { on := 1, ground := Ground.phase }, { on := 2, ground := Ground.phase }, { on := 3, ground := Ground.phase }, { on := 4, ground := Ground.phase }, { on := 5, ground := Ground.phase }, { on := 6, ground := Ground.phase }, { on := 7, ground := Ground.phase }, { on := 8, ground := Ground.textOnly Departure.lateStores }, { on := 9, ground := Ground.phase }, { on := 10, ground := Ground.phase }], guard := none } : Oper)) rfl (fun K hK => ?_) AllReadyE.nil
        rw [if_pos (by rfl)]
        refine wp_store_known 68 (.tmp 12) (.tmp 112) rfl ⟨ga, 0, none⟩ (.agg (faceC (faceE e.p e.x zs))) rfl rfl (store_face face0 _ _ ga _ HA.out) ?_
        have HB3 := Lib.hid (below_setRow hHeld HLA.out (faceC (faceE e.p e.x zs)))
        have HC3 := Lib.hid ((setRow_other _ ga gc (faceC (faceE e.p e.x zs)) (Ne.symm HNE.out)).trans HC.out)
        have HA3 := Lib.hid (setRow_heap _ ga _ (faceC (faceE e.p e.x zs)) _ _ HA.out)
        refine hK.out _ _ (Or.inl ⟨11, by simp, by kernel_rfl⟩) (fun _ => ?_)
        clear hK K
        try clear hHeld
        try clear hb
        try simp only [Act.put, List.setIfInBounds_toArray, List.set_cons_zero, List.set_cons_succ]
        refine wpAnyE_ready (rs := [12]) (by kernel_rfl) (by simp) ?_
        refine AllReadyE.cons (o := ({ dst := none, op := Op.store 68 (Operand.tmp 13) (Operand.tmp 113), type := 0, pos := "match.go:137", after := #[{ on := 10, ground := Ground.data }, { on := 8, ground := Ground.data }, { on := 11, ground := Ground.chain }, { on := 0, ground := Ground.phase }, { on := 1, ground := Ground.phase }, { on := 2, ground := Ground.phase }, { on := 3, ground := Ground.phase }, { on := 4, ground := Ground.phase }, { on := 5, ground := Ground.phase }, { on := 6, ground := Ground.phase }, { on := 7, ground := Ground.phase }, { on := 8, ground := Ground.phase }, { on := 9, ground := Ground.phase }, { on := 10, ground := Ground.phase }, { on := 11, ground := Ground.phase }], guard := none } : Oper)) rfl (fun K hK => ?_) AllReadyE.nil
        rw [if_pos (by rfl)]
        refine wp_store_known 68 (.tmp 13) (.tmp 113) rfl ⟨gc, 0, none⟩ (.agg (faceC (faceO e.p e.x zs))) rfl rfl (store_face face0 _ _ gc _ HC3.out) ?_
        have HB4 := Lib.hid (below_setRow HB3.out HLC.out (faceC (faceO e.p e.x zs)))
        have HA4 := Lib.hid ((setRow_other _ gc ga (faceC (faceO e.p e.x zs)) HNE.out).trans HA3.out)
        have HC4 := Lib.hid (setRow_heap _ gc _ (faceC (faceO e.p e.x zs)) _ _ HC3.out)
        refine hK.out _ _ (Or.inl ⟨12, by simp, by kernel_rfl⟩) (fun _ => ?_)
        clear hK K
        try clear hHeld
        try clear hb
        try simp only [Act.put, List.setIfInBounds_toArray, List.set_cons_zero, List.set_cons_succ]
        refine wpAnyE_done (by kernel_rfl) ?_ _
        refine hK19 _ _ ?_
        exact add_tail19 (F := F) (w := w) (e := e) _ _ _ _ _ _ _ _ _ _ _ _ _ _ _ _ _ _ _ _ _ _ _ _ _ _ _ _ _ _ _ _ _ _ _ _ _ _ _ _ _ _ _ _ _ _ _ _ _ _ _ _ _ _ _ _ _ _ _ _ _ _ _ _ _ _ _ _ _ _ _ _ _ _ _ _ _ _ _ _ _ _ _ _ _ _ _ _ _ _ _ _ _ _ _ _ _ _ _ _ _ _ _ _ _ _ _ _ _ _ _ _ _ _ _ _ _ _ _ _ _ _ _ _ _ _ _ _ _ _ _ _ _ _ _ _ _ _ _ _ _ _ _ _ _ _ _ _ _ _ _ _ _ _ _ _ _ _ _ _ _ _ _ _ _ _ _ _ _ _ _ _ _ _ _ _ _ _ _ _ _ _ _ _ _ _ _ _ _ _ _ _ _ _ _ _ _ _ _ _ _ _ _ _ _ _ _ _ _ _ _ _ _ _ _ _ _ _ _ _ _ _ _ (HM0.out.grow HB4.out) (HR0.out.grow HB4.out) HWW.out HOO.out HOK.out HSH.out HT.out (HPW.out.below HB4.out) ⟨x, by rw [HE.out], blk_none HSB0.out (gb_below HB4.out)⟩ HA4.out HC4.out HEL.out HZL.out HPL.out HPO.out.none_ HPO.out.some_
      refine AllReadyE.cons (o := ({ dst := some 13, op := Op.alloc 68, type := 0, pos := "match.go:137", after := #[], guard := none } : Oper)) rfl (fun K hK => ?_) AllReadyE.nil
      · rw [if_pos (by rfl)]
        refine wp_alloc_known 68 rfl (faceC face0) (alloc_face _) ?_
        intro W2 gc hb2 hgc hlc
        have HLC := Lib.hid (Nat.le_trans hHeld.size hlc)
        try (have HNE : Hid (ga ≠ gc) := Lib.hid (fun e => by have := (Array.getElem?_eq_some_iff.1 HA.out).1; omega))
        try (have HA := Lib.hid (blk_none HA.out (gb_below hb2)))
        have HC := Lib.hid hgc
        clear hgc hlc
        have hHeld2 : (show World → Prop from fun W1 => Below W.drew.heap.size W.drew W1) _ := bl_then hHeld hb2
        refine hK.out _ _ (Or.inr hHeld2) (fun _ => ?_)
        clear hK K hHeld
        try clear hb
        have hHeld := hHeld2
        clear hHeld2
        try simp only [Act.put, List.setIfInBounds_toArray, List.set_cons_zero, List.set_cons_succ]
        refine wpAnyE_ready (rs := [8, 11]) (by kernel_rfl) (by simp) ?_
        refine AllReadyE.cons (o := ({ dst := some 113, op := Op.extract (Operand.tmp 105) 1, type := 68, pos := "match.go:137", after := #[{ on := 6, ground := Ground.data }, { on := 11, ground := Ground.gcOnly Departure.lateStores }], guard := none } : Oper)) rfl (fun K hK => ?_) ?_
        · go_simp
          have hHeld2 : (show World → Prop from fun W1 => Below W.drew.heap.size W.drew W1) _ := hHeld
          refine hK.out _ _ (Or.inr hHeld2) (fun _ => ?_)
          clear hK K hHeld
          try clear hb
          have hHeld := hHeld2
          clear hHeld2
          try simp only [Act.put, List.setIfInBounds_toArray, List.set_cons_zero, List.set_cons_succ]
          refine wpAnyE_ready (rs := [11]) (by kernel_rfl) (by simp) ?_
          refine AllReadyE.cons (o := ({ dst := none, op := Op.store 68 (Operand.tmp 12) (Operand.tmp 112), type := 0, pos := "match.go:137", after := #[{ on := 9, ground := Ground.data }, { on := 7, ground := Ground.data }, { on := 5, ground := Ground.chain }, { on := 0, ground := Ground.phase }, { on := 1, ground := Ground.phase }, { on := 2, ground := Ground.phase }, { on := 3, ground := Ground.phase }, { on := 4, ground := Ground.phase }, { on := 5, ground := Ground.phase }, { on := 6, ground := Ground.phase }, { on := 7, ground := Ground.phase }, { on := 8, ground := Ground.textOnly Departure.lateStores }, { on := 9, ground := Ground.phase }, { on := 10, ground := Ground.phase }], guard := none } : Oper)) rfl (fun K hK => ?_) AllReadyE.nil
          rw [if_pos (by rfl)]
          refine wp_store_known 68 (.tmp 12) (.tmp 112) rfl ⟨ga, 0, none⟩ (.agg (faceC (faceE e.p e.x zs))) rfl rfl (store_face face0 _ _ ga _ HA.out) ?_
          have HB3 := Lib.hid (below_setRow hHeld HLA.out (faceC (faceE e.p e.x zs)))
          have HC3 := Lib.hid ((setRow_other _ ga gc (faceC (faceE e.p e.x zs)) (Ne.symm HNE.out)).trans HC.out)
          have HA3 := Lib.hid (setRow_heap _ ga _ (faceC (faceE e.p e.x zs)) _ _ HA.out)
          refine hK.out _ _ (Or.inl ⟨11, by simp, by kernel_rfl⟩) (fun _ => ?_)
          clear hK K
          try clear hHeld
          try clear hb
          try simp only [Act.put, List.setIfInBounds_toArray, List.set_cons_zero, List.set_cons_succ]
          refine wpAnyE_ready (rs := [12]) (by kernel_rfl) (by simp) ?_
          refine AllReadyE.cons (o := ({ dst := none, op := Op.store 68 (Operand.tmp 13) (Operand.tmp 113), type := 0, pos := "match.go:137", after := #[{ on := 10, ground := Ground.data }, { on := 8, ground := Ground.data }, { on := 11, ground := Ground.chain }, { on := 0, ground := Ground.phase }, { on := 1, ground := Ground.phase }, { on := 2, ground := Ground.phase }, { on := 3, ground := Ground.phase }, { on := 4, ground := Ground.phase }, { on := 5, ground := Ground.phase }, { on := 6, ground := Ground.phase }, { on := 7, ground := Ground.phase }, { on := 8, ground := Ground.phase }, { on := 9, ground := Ground.phase }, { on := 10, ground := Ground.phase }, { on := 11, ground := Ground.phase }], guard := none } : Oper)) rfl (fun K hK => ?_) AllReadyE.nil
          rw [if_pos (by rfl)]
          refine wp_store_known 68 (.tmp 13) (.tmp 113) rfl ⟨gc, 0, none⟩ (.agg (faceC (faceO e.p e.x zs))) rfl rfl (store_face face0 _ _ gc _ HC3.out) ?_
          have HB4 := Lib.hid (below_setRow HB3.out HLC.out (faceC (faceO e.p e.x zs)))
          have HA4 := Lib.hid ((setRow_other _ gc ga (faceC (faceO e.p e.x zs)) HNE.out).trans HA3.out)
          have HC4 := Lib.hid (setRow_heap _ gc _ (faceC (faceO e.p e.x zs)) _ _ HC3.out)
          refine hK.out _ _ (Or.inl ⟨12, by simp, by kernel_rfl⟩) (fun _ => ?_)
          clear hK K
          try clear hHeld
          try clear hb
          try simp only [Act.put, List.setIfInBounds_toArray, List.set_cons_zero, List.set_cons_succ]
          refine wpAnyE_done (by kernel_rfl) ?_ _
          refine hK19 _ _ ?_
          exact add_tail19 (F := F) (w := w) (e := e) _ _ _ _ _ _ _ _ _ _ _ _ _ _ _ _ _ _ _ _ _ _ _ _ _ _ _ _ _ _ _ _ _ _ _ _ _ _ _ _ _ _ _ _ _ _ _ _ _ _ _ _ _ _ _ _ _ _ _ _ _ _ _ _ _ _ _ _ _ _ _ _ _ _ _ _ _ _ _ _ _ _ _ _ _ _ _ _ _ _ _ _ _ _ _ _ _ _ _ _ _ _ _ _ _ _ _ _ _ _ _ _ _ _ _ _ _ _ _ _ _ _ _ _ _ _ _ _ _ _ _ _ _ _ _ _ _ _ _ _ _ _ _ _ _ _ _ _ _ _ _ _ _ _ _ _ _ _ _ _ _ _ _ _ _ _ _ _ _ _ _ _ _ _ _ _ _ _ _ _ _ _ _ _ _ _ _ _ _ _ _ _ _ _ _ _ _ _ _ _ _ _ _ _ _ _ _ _ _ _ _ _ _ _ _ _ _ _ _ _ _ _ _ (HM0.out.grow HB4.out) (HR0.out.grow HB4.out) HWW.out HOO.out HOK.out HSH.out HT.out (HPW.out.below HB4.out) ⟨x, by rw [HE.out], blk_none HSB0.out (gb_below HB4.out)⟩ HA4.out HC4.out HEL.out HZL.out HPL.out HPO.out.none_ HPO.out.some_
        refine AllReadyE.cons (o := ({ dst := none, op := Op.store 68 (Operand.tmp 12) (Operand.tmp 112), type := 0, pos := "match.go:137", after := #[{ on := 9, ground := Ground.data }, { on := 7, ground := Ground.data }, { on := 5, ground := Ground.chain }, { on := 0, ground := Ground.phase }, { on := 1, ground := Ground.phase }, { on := 2, ground := Ground.phase }, { on := 3, ground := Ground.phase }, { on := 4, ground := Ground.phase }, { on := 5, ground := Ground.phase }, { on := 6, ground := Ground.phase }, { on := 7, ground := Ground.phase }, { on := 8, ground := Ground.textOnly Departure.lateStores }, { on := 9, ground := Ground.phase }, { on := 10, ground := Ground.phase }], guard := none } : Oper)) rfl (fun K hK => ?_) AllReadyE.nil
        · rw [if_pos (by rfl)]
          refine wp_store_known 68 (.tmp 12) (.tmp 112) rfl ⟨ga, 0, none⟩ (.agg (faceC (faceE e.p e.x zs))) rfl rfl (store_face face0 _ _ ga _ HA.out) ?_
          have HB3 := Lib.hid (below_setRow hHeld HLA.out (faceC (faceE e.p e.x zs)))
          have HC3 := Lib.hid ((setRow_other _ ga gc (faceC (faceE e.p e.x zs)) (Ne.symm HNE.out)).trans HC.out)
          have HA3 := Lib.hid (setRow_heap _ ga _ (faceC (faceE e.p e.x zs)) _ _ HA.out)
          refine hK.out _ _ (Or.inl ⟨11, by simp, by kernel_rfl⟩) (fun _ => ?_)
          clear hK K
          try clear hHeld
          try clear hb
          try simp only [Act.put, List.setIfInBounds_toArray, List.set_cons_zero, List.set_cons_succ]
          refine wpAnyE_ready (rs := [8]) (by kernel_rfl) (by simp) ?_
          refine AllReadyE.cons (o := ({ dst := some 113, op := Op.extract (Operand.tmp 105) 1, type := 68, pos := "match.go:137", after := #[{ on := 6, ground := Ground.data }, { on := 11, ground := Ground.gcOnly Departure.lateStores }], guard := none } : Oper)) rfl (fun K hK => ?_) AllReadyE.nil
          go_simp
          refine hK.out _ _ (Or.inl ⟨11, by simp, by kernel_rfl⟩) (fun _ => ?_)
          clear hK K
          try clear hHeld
          try clear hb
          try simp only [Act.put, List.setIfInBounds_toArray, List.set_cons_zero, List.set_cons_succ]
          refine wpAnyE_ready (rs := [12]) (by kernel_rfl) (by simp) ?_
          refine AllReadyE.cons (o := ({ dst := none, op := Op.store 68 (Operand.tmp 13) (Operand.tmp 113), type := 0, pos := "match.go:137", after := #[{ on := 10, ground := Ground.data }, { on := 8, ground := Ground.data }, { on := 11, ground := Ground.chain }, { on := 0, ground := Ground.phase }, { on := 1, ground := Ground.phase }, { on := 2, ground := Ground.phase }, { on := 3, ground := Ground.phase }, { on := 4, ground := Ground.phase }, { on := 5, ground := Ground.phase }, { on := 6, ground := Ground.phase }, { on := 7, ground := Ground.phase }, { on := 8, ground := Ground.phase }, { on := 9, ground := Ground.phase }, { on := 10, ground := Ground.phase }, { on := 11, ground := Ground.phase }], guard := none } : Oper)) rfl (fun K hK => ?_) AllReadyE.nil
          rw [if_pos (by rfl)]
          refine wp_store_known 68 (.tmp 13) (.tmp 113) rfl ⟨gc, 0, none⟩ (.agg (faceC (faceO e.p e.x zs))) rfl rfl (store_face face0 _ _ gc _ HC3.out) ?_
          have HB4 := Lib.hid (below_setRow HB3.out HLC.out (faceC (faceO e.p e.x zs)))
          have HA4 := Lib.hid ((setRow_other _ gc ga (faceC (faceO e.p e.x zs)) HNE.out).trans HA3.out)
          have HC4 := Lib.hid (setRow_heap _ gc _ (faceC (faceO e.p e.x zs)) _ _ HC3.out)
          refine hK.out _ _ (Or.inl ⟨12, by simp, by kernel_rfl⟩) (fun _ => ?_)
          clear hK K
          try clear hHeld
          try clear hb
          try simp only [Act.put, List.setIfInBounds_toArray, List.set_cons_zero, List.set_cons_succ]
          refine wpAnyE_done (by kernel_rfl) ?_ _
          refine hK19 _ _ ?_
          exact add_tail19 (F := F) (w := w) (e := e) _ _ _ _ _ _ _ _ _ _ _ _ _ _ _ _ _ _ _ _ _ _ _ _ _ _ _ _ _ _ _ _ _ _ _ _ _ _ _ _ _ _ _ _ _ _ _ _ _ _ _ _ _ _ _ _ _ _ _ _ _ _ _ _ _ _ _ _ _ _ _ _ _ _ _ _ _ _ _ _ _ _ _ _ _ _ _ _ _ _ _ _ _ _ _ _ _ _ _ _ _ _ _ _ _ _ _ _ _ _ _ _ _ _ _ _ _ _ _ _ _ _ _ _ _ _ _ _ _ _ _ _ _ _ _ _ _ _ _ _ _ _ _ _ _ _ _ _ _ _ _ _ _ _ _ _ _ _ _ _ _ _ _ _ _ _ _ _ _ _ _ _ _ _ _ _ _ _ _ _ _ _ _ _ _ _ _ _ _ _ _ _ _ _ _ _ _ _ _ _ _ _ _ _ _ _ _ _ _ _ _ _ _ _ _ _ _ _ _ _ _ _ _ (HM0.out.grow HB4.out) (HR0.out.grow HB4.out) HWW.out HOO.out HOK.out HSH.out HT.out (HPW.out.below HB4.out) ⟨x, by rw [HE.out], blk_none HSB0.out (gb_below HB4.out)⟩ HA4.out HC4.out HEL.out HZL.out HPL.out HPO.out.none_ HPO.out.some_
    refine AllReadyE.cons (o := ({ dst := some 13, op := Op.alloc 68, type := 0, pos := "match.go:137", after := #[], guard := none } : Oper)) rfl (fun K hK => ?_) AllReadyE.nil
    · rw [if_pos (by rfl)]
      refine wp_alloc_known 68 rfl (faceC face0) (alloc_face _) ?_
      intro W2 gc hb2 hgc hlc
      have HLC := Lib.hid (Nat.le_trans hHeld.size hlc)
      try (have HNE : Hid (ga ≠ gc) := Lib.hid (fun e => by have := (Array.getElem?_eq_some_iff.1 HA.out).1; omega))
      try (have HA := Lib.hid (blk_none HA.out (gb_below hb2)))
      have HC := Lib.hid hgc
      clear hgc hlc
      have hHeld2 : (show World → Prop from fun W1 => Below W.drew.heap.size W.drew W1) _ := bl_then hHeld hb2
      refine hK.out _ _ (Or.inr hHeld2) (fun _ => ?_)
      clear hK K hHeld
      try clear hb
      have hHeld := hHeld2
      clear hHeld2
      try simp only [Act.put, List.setIfInBounds_toArray, List.set_cons_zero, List.set_cons_succ]
      refine wpAnyE_ready (rs := [5]) (by kernel_rfl) (by simp) ?_
      refine AllReadyE.cons (o := ({ dst := some 111, op := Op.call { callee := Callee.value (Operand.func 23), args := #[Operand.tmp 106, Operand.tmp 110], argTypes := #[28, 29] }, type := 69, pos := "match.go:137", after := #[{ on := 0, ground := Ground.data }, { on := 4, ground := Ground.data }], guard := none } : Oper)) rfl (fun K hK => ?_) AllReadyE.nil
      go_simp
      go_at_call 23
      (with_reducible refine (HFO.out _ hHeld).mono ?_)
      rintro e1 W2 ⟨rfl, hb2⟩
      try (have HA := Lib.hid (blk_none HA.out (gb_below hb2)))
      try (have HC := Lib.hid (blk_none HC.out (gb_below hb2)))
      have hHeld2 : (show World → Prop from fun W1 => Below W.drew.heap.size W.drew W1) _ := bl_then hHeld hb2
      refine hK.out _ _ (Or.inr hHeld2) (fun _ => ?_)
      clear hK K hHeld
      try clear hb
      have hHeld := hHeld2
      clear hHeld2
      try simp only [Act.put, List.setIfInBounds_toArray, List.set_cons_zero, List.set_cons_succ]
      refine wpAnyE_take (i := 6) (oi := ({ dst := some 105, op := Op.move (Operand.tmp 111), type := 69, pos := "match.go:137", after := #[{ on := 5, ground := Ground.data }], guard := none } : Oper)) (v := ?_) rfl (by kernel_rfl) (by kernel_rfl) (by kernel_rfl) (by kernel_rfl) (fun _ _ _ h => h) (Or.inl ⟨by rfl, ?_⟩) hHeld ?_
      rotate_left
      · intro w' hSw; (try dsimp only at hSw); go_simp <;> with_reducible rfl
      try simp only [Act.put, List.setIfInBounds_toArray, List.set_cons_zero, List.set_cons_succ]
      refine wpAnyE_take (i := 7) (oi := ({ dst := some 112, op := Op.extract (Operand.tmp 105) 0, type := 68, pos := "match.go:137", after := #[{ on := 6, ground := Ground.data }], guard := none } : Oper)) (v := ?_) rfl (by kernel_rfl) (by kernel_rfl) (by kernel_rfl) (by kernel_rfl) (fun _ _ _ h => h) (Or.inl ⟨by rfl, ?_⟩) hHeld ?_
      rotate_left
      · intro w' hSw; (try dsimp only at hSw); go_simp <;> with_reducible rfl
      try simp only [Act.put, List.setIfInBounds_toArray, List.set_cons_zero, List.set_cons_succ]
      refine wpAnyE_ready (rs := [8, 11]) (by kernel_rfl) (by simp) ?_
      refine AllReadyE.cons (o := ({ dst := some 113, op := Op.extract (Operand.tmp 105) 1, type := 68, pos := "match.go:137", after := #[{ on := 6, ground := Ground.data }, { on := 11, ground := Ground.gcOnly Departure.lateStores }], guard := none } : Oper)) rfl (fun K hK => ?_) ?_
      · go_simp
        have hHeld2 : (show World → Prop from fun W1 => Below W.drew.heap.size W.drew W1) _ := hHeld
        refine hK.out _ _ (Or.inr hHeld2) (fun _ => ?_)
        clear hK K hHeld
        try clear hb
        have hHeld := hHeld2
        clear hHeld2
        try simp only [Act.put, List.setIfInBounds_toArray, List.set_cons_zero, List.set_cons_succ]
        refine wpAnyE_ready (rs := [11]) (by kernel_rfl) (by simp) ?_
        refine AllReadyE.cons (o := ({ dst := none, op := Op.store 68 (Operand.tmp 12) (Operand.tmp 112), type := 0, pos := "match.go:137", after := #[{ on := 9, ground := Ground.data }, { on := 7, ground := Ground.data }, { on := 5, ground := Ground.chain }, { on := 0, ground := Ground.phase }, { on := 1, ground := Ground.phase }, { on := 2, ground := Ground.phase }, { on := 3, ground := Ground.phase }, { on := 4, ground := Ground.phase }, { on := 5, ground := Ground.phase }, { on := 6, ground := Ground.phase }, { on := 7, ground := Ground.phase }, { on := 8, ground := Ground.textOnly Departure.lateStores }, { on := 9, ground := Ground.phase }, { on := 10, ground := Ground.phase }], guard := none } : Oper)) rfl (fun K hK => ?_) AllReadyE.nil
        rw [if_pos (by rfl)]
        refine wp_store_known 68 (.tmp 12) (.tmp 112) rfl ⟨ga, 0, none⟩ (.agg (faceC (faceE e.p e.x zs))) rfl rfl (store_face face0 _ _ ga _ HA.out) ?_
        have HB3 := Lib.hid (below_setRow hHeld HLA.out (faceC (faceE e.p e.x zs)))
        have HC3 := Lib.hid ((setRow_other _ ga gc (faceC (faceE e.p e.x zs)) (Ne.symm HNE.out)).trans HC.out)
        have HA3 := Lib.hid (setRow_heap _ ga _ (faceC (faceE e.p e.x zs)) _ _ HA.out)
        refine hK.out _ _ (Or.inl ⟨11, by simp, by kernel_rfl⟩) (fun _ => ?_)
        clear hK K
        try clear hHeld
        try clear hb
        try simp only [Act.put, List.setIfInBounds_toArray, List.set_cons_zero, List.set_cons_succ]
        refine wpAnyE_ready (rs := [12]) (by kernel_rfl) (by simp) ?_
        refine AllReadyE.cons (o := ({ dst := none, op := Op.store 68 (Operand.tmp 13) (Operand.tmp 113), type := 0, pos := "match.go:137", after := #[{ on := 10, ground := Ground.data }, { on := 8, ground := Ground.data }, { on := 11, ground := Ground.chain }, { on := 0, ground := Ground.phase }, { on := 1, ground := Ground.phase }, { on := 2, ground := Ground.phase }, { on := 3, ground := Ground.phase }, { on := 4, ground := Ground.phase }, { on := 5, ground := Ground.phase }, { on := 6, ground := Ground.phase }, { on := 7, ground := Ground.phase }, { on := 8, ground := Ground.phase }, { on := 9, ground := Ground.phase }, { on := 10, ground := Ground.phase }, { on := 11, ground := Ground.phase }], guard := none } : Oper)) rfl (fun K hK => ?_) AllReadyE.nil
        rw [if_pos (by rfl)]
        refine wp_store_known 68 (.tmp 13) (.tmp 113) rfl ⟨gc, 0, none⟩ (.agg (faceC (faceO e.p e.x zs))) rfl rfl (store_face face0 _ _ gc _ HC3.out) ?_
        have HB4 := Lib.hid (below_setRow HB3.out HLC.out (faceC (faceO e.p e.x zs)))
        have HA4 := Lib.hid ((setRow_other _ gc ga (faceC (faceO e.p e.x zs)) HNE.out).trans HA3.out)
        have HC4 := Lib.hid (setRow_heap _ gc _ (faceC (faceO e.p e.x zs)) _ _ HC3.out)
        refine hK.out _ _ (Or.inl ⟨12, by simp, by kernel_rfl⟩) (fun _ => ?_)
        clear hK K
        try clear hHeld
        try clear hb
        try simp only [Act.put, List.setIfInBounds_toArray, List.set_cons_zero, List.set_cons_succ]
        refine wpAnyE_done (by kernel_rfl) ?_ _
        refine hK19 _ _ ?_
        exact add_tail19 (F := F) (w := w) (e := e) _ _ _ _ _ _ _ _ _ _ _ _ _ _ _ _ _ _ _ _ _ _ _ _ _ _ _ _ _ _ _ _ _ _ _ _ _ _ _ _ _ _ _ _ _ _ _ _ _ _ _ _ _ _ _ _ _ _ _ _ _ _ _ _ _ _ _ _ _ _ _ _ _ _ _ _ _ _ _ _ _ _ _ _ _ _ _ _ _ _ _ _ _ _ _ _ _ _ _ _ _ _ _ _ _ _ _ _ _ _ _ _ _ _ _ _ _ _ _ _ _ _ _ _ _ _ _ _ _ _ _ _ _ _ _ _ _ _ _ _ _ _ _ _ _ _ _ _ _ _ _ _ _ _ _ _ _ _ _ _ _ _ _ _ _ _ _ _ _ _ _ _ _ _ _ _ _ _ _ _ _ _ _ _ _ _ _ _ _ _ _ _ _ _ _ _ _ _ _ _ _ _ _ _ _ _ _ _ _ _ _ _ _ _ _ _ _ _ _ _ _ _ _ (HM0.out.grow HB4.out) (HR0.out.grow HB4.out) HWW.out HOO.out HOK.out HSH.out HT.out (HPW.out.below HB4.out) ⟨x, by rw [HE.out], blk_none HSB0.out (gb_below HB4.out)⟩ HA4.out HC4.out HEL.out HZL.out HPL.out HPO.out.none_ HPO.out.some_
      refine AllReadyE.cons (o := ({ dst := none, op := Op.store 68 (Operand.tmp 12) (Operand.tmp 112), type := 0, pos := "match.go:137", after := #[{ on := 9, ground := Ground.data }, { on := 7, ground := Ground.data }, { on := 5, ground := Ground.chain }, { on := 0, ground := Ground.phase }, { on := 1, ground := Ground.phase }, { on := 2, ground := Ground.phase }, { on := 3, ground := Ground.phase }, { on := 4, ground := Ground.phase }, { on := 5, ground := Ground.phase }, { on := 6, ground := Ground.phase }, { on := 7, ground := Ground.phase }, { on := 8, ground := Ground.textOnly Departure.lateStores }, { on := 9, ground := Ground.phase }, { on := 10, ground := Ground.phase }], guard := none } : Oper)) rfl (fun K hK => ?_) AllReadyE.nil
      · rw [if_pos (by rfl)]
        refine wp_store_known 68 (.tmp 12) (.tmp 112) rfl ⟨ga, 0, none⟩ (.agg (faceC (faceE e.p e.x zs))) rfl rfl (store_face face0 _ _ ga _ HA.out) ?_
        have HB3 := Lib.hid (below_setRow hHeld HLA.out (faceC (faceE e.p e.x zs)))
        have HC3 := Lib.hid ((setRow_other _ ga gc (faceC (faceE e.p e.x zs)) (Ne.symm HNE.out)).trans HC.out)
        have HA3 := Lib.hid (setRow_heap _ ga _ (faceC (faceE e.p e.x zs)) _ _ HA.out)
        refine hK.out _ _ (Or.inl ⟨11, by simp, by kernel_rfl⟩) (fun _ => ?_)
        clear hK K
        try clear hHeld
        try clear hb
        try simp only [Act.put, List.setIfInBounds_toArray, List.set_cons_zero, List.set_cons_succ]
        refine wpAnyE_ready (rs := [8]) (by kernel_rfl) (by simp) ?_
        refine AllReadyE.cons (o := ({ dst := some 113, op := Op.extract (Operand.tmp 105) 1, type := 68, pos := "match.go:137", after := #[{ on := 6, ground := Ground.data }, { on := 11, ground := Ground.gcOnly Departure.lateStores }], guard := none } : Oper)) rfl (fun K hK => ?_) AllReadyE.nil
        go_simp
        refine hK.out _ _ (Or.inl ⟨11, by simp, by kernel_rfl⟩) (fun _ => ?_)
        clear hK K
        try clear hHeld
        try clear hb
        try simp only [Act.put, List.setIfInBounds_toArray, List.set_cons_zero, List.set_cons_succ]
        refine wpAnyE_ready (rs := [12]) (by kernel_rfl) (by simp) ?_
        refine AllReadyE.cons (o := ({ dst := none, op := Op.store 68 (Operand.tmp 13) (Operand.tmp 113), type := 0, pos := "match.go:137", after := #[{ on := 10, ground := Ground.data }, { on := 8, ground := Ground.data }, { on := 11, ground := Ground.chain }, { on := 0, ground := Ground.phase }, { on := 1, ground := Ground.phase }, { on := 2, ground := Ground.phase }, { on := 3, ground := Ground.phase }, { on := 4, ground := Ground.phase }, { on := 5, ground := Ground.phase }, { on := 6, ground := Ground.phase }, { on := 7, ground := Ground.phase }, { on := 8, ground := Ground.phase }, { on := 9, ground := Ground.phase }, { on := 10, ground := Ground.phase }, { on := 11, ground := Ground.phase }], guard := none } : Oper)) rfl (fun K hK => ?_) AllReadyE.nil
        rw [if_pos (by rfl)]
        refine wp_store_known 68 (.tmp 13) (.tmp 113) rfl ⟨gc, 0, none⟩ (.agg (faceC (faceO e.p e.x zs))) rfl rfl (store_face face0 _ _ gc _ HC3.out) ?_
        have HB4 := Lib.hid (below_setRow HB3.out HLC.out (faceC (faceO e.p e.x zs)))
        have HA4 := Lib.hid ((setRow_other _ gc ga (faceC (faceO e.p e.x zs)) HNE.out).trans HA3.out)
        have HC4 := Lib.hid (setRow_heap _ gc _ (faceC (faceO e.p e.x zs)) _ _ HC3.out)
        refine hK.out _ _ (Or.inl ⟨12, by simp, by kernel_rfl⟩) (fun _ => ?_)
        clear hK K
        try clear hHeld
        try clear hb
        try simp only [Act.put, List.setIfInBounds_toArray, List.set_cons_zero, List.set_cons_succ]
        refine wpAnyE_done (by kernel_rfl) ?_ _
        refine hK19 _ _ ?_
        exact add_tail19 (F := F) (w := w) (e := e) _ _ _ _ _ _ _ _ _ _ _ _ _ _ _ _ _ _ _ _ _ _ _ _ _ _ _ _ _ _ _ _ _ _ _ _ _ _ _ _ _ _ _ _ _ _ _ _ _ _ _ _ _ _ _ _ _ _ _ _ _ _ _ _ _ _ _ _ _ _ _ _ _ _ _ _ _ _ _ _ _ _ _ _ _ _ _ _ _ _ _ _ _ _ _ _ _ _ _ _ _ _ _ _ _ _ _ _ _ _ _ _ _ _ _ _ _ _ _ _ _ _ _ _ _ _ _ _ _ _ _ _ _ _ _ _ _ _ _ _ _ _ _ _ _ _ _ _ _ _ _ _ _ _ _ _ _ _ _ _ _ _ _ _ _ _ _ _ _ _ _ _ _ _ _ _ _ _ _ _ _ _ _ _ _ _ _ _ _ _ _ _ _ _ _ _ _ _ _ _ _ _ _ _ _ _ _ _ _ _ _ _ _ _ _ _ _ _ _ _ _ _ _ (HM0.out.grow HB4.out) (HR0.out.grow HB4.out) HWW.out HOO.out HOK.out HSH.out HT.out (HPW.out.below HB4.out) ⟨x, by rw [HE.out], blk_none HSB0.out (gb_below HB4.out)⟩ HA4.out HC4.out HEL.out HZL.out HPL.out HPO.out.none_ HPO.out.some_
  refine AllReadyE.cons (o := ({ dst := some 13, op := Op.alloc 68, type := 0, pos := "match.go:137", after := #[], guard := none } : Oper)) rfl (fun K hK => ?_) AllReadyE.nil
  · rw [if_pos (by rfl)]
    refine wp_alloc_known 68 rfl (faceC face0) (alloc_face _) ?_
    intro W2 gc hb2 hgc hlc
    have HLC := Lib.hid (Nat.le_trans hHeld.size hlc)
    try (have HNE : Hid (ga ≠ gc) := Lib.hid (fun e => by have := (Array.getElem?_eq_some_iff.1 HA.out).1; omega))
    try (have HA := Lib.hid (blk_none HA.out (gb_below hb2)))
    have HC := Lib.hid hgc
    clear hgc hlc
    have hHeld2 : (show World → Prop from fun W1 => Below W.drew.heap.size W.drew W1) _ := bl_then hHeld hb2
    refine hK.out _ _ (Or.inr hHeld2) (fun _ => ?_)
    clear hK K hHeld
    try clear hb
    have hHeld := hHeld2
    clear hHeld2
    try simp only [Act.put, List.setIfInBounds_toArray, List.set_cons_zero, List.set_cons_succ]
    refine wpAnyE_ready (rs := [5, 9]) (by kernel_rfl) (by simp) ?_
    refine AllReadyE.cons (o := ({ dst := some 111, op := Op.call { callee := Callee.value (Operand.func 23), args := #[Operand.tmp 106, Operand.tmp 110], argTypes := #[28, 29] }, type := 69, pos := "match.go:137", after := #[{ on := 0, ground := Ground.data }, { on := 4, ground := Ground.data }], guard := none } : Oper)) rfl (fun K hK => ?_) ?_
    · go_simp
      go_at_call 23
      (with_reducible refine (HFO.out _ hHeld).mono ?_)
      rintro e1 W2 ⟨rfl, hb2⟩
      try (have HA := Lib.hid (blk_none HA.out (gb_below hb2)))
      try (have HC := Lib.hid (blk_none HC.out (gb_below hb2)))
      have hHeld2 : (show World → Prop from fun W1 => Below W.drew.heap.size W.drew W1) _ := bl_then hHeld hb2
      refine hK.out _ _ (Or.inr hHeld2) (fun _ => ?_)
      clear hK K hHeld
      try clear hb
      have hHeld := hHeld2
      clear hHeld2
      try simp only [Act.put, List.setIfInBounds_toArray, List.set_cons_zero, List.set_cons_succ]
      refine wpAnyE_take (i := 6) (oi := ({ dst := some 105, op := Op.move (Operand.tmp 111), type := 69, pos := "match.go:137", after := #[{ on := 5, ground := Ground.data }], guard := none } : Oper)) (v := ?_) rfl (by kernel_rfl) (by kernel_rfl) (by kernel_rfl) (by kernel_rfl) (fun _ _ _ h => h) (Or.inl ⟨by rfl, ?_⟩) hHeld ?_
      rotate_left
      · intro w' hSw; (try dsimp only at hSw); go_simp <;> with_reducible rfl
      try simp only [Act.put, List.setIfInBounds_toArray, List.set_cons_zero, List.set_cons_succ]
      refine wpAnyE_take (i := 7) (oi := ({ dst := some 112, op := Op.extract (Operand.tmp 105) 0, type := 68, pos := "match.go:137", after := #[{ on := 6, ground := Ground.data }], guard := none } : Oper)) (v := ?_) rfl (by kernel_rfl) (by kernel_rfl) (by kernel_rfl) (by kernel_rfl) (fun _ _ _ h => h) (Or.inl ⟨by rfl, ?_⟩) hHeld ?_
      rotate_left
      · intro w' hSw; (try dsimp only at hSw); go_simp <;> with_reducible rfl
      try simp only [Act.put, List.setIfInBounds_toArray, List.set_cons_zero, List.set_cons_succ]
      refine wpAnyE_ready (rs := [8, 9]) (by kernel_rfl) (by simp) ?_
      refine AllReadyE.cons (o := ({ dst := some 113, op := Op.extract (Operand.tmp 105) 1, type := 68, pos := "match.go:137", after := #[{ on := 6, ground := Ground.data }, { on := 11, ground := Ground.gcOnly Departure.lateStores }], guard := none } : Oper)) rfl (fun K hK => ?_) ?_
      · go_simp
        have hHeld2 : (show World → Prop from fun W1 => Below W.drew.heap.size W.drew W1) _ := hHeld
        refine hK.out _ _ (Or.inr hHeld2) (fun _ => ?_)
        clear hK K hHeld
        try clear hb
        have hHeld := hHeld2
        clear hHeld2
        try simp only [Act.put, List.setIfInBounds_toArray, List.set_cons_zero, List.set_cons_succ]
        refine wpAnyE_ready (rs := [9]) (by kernel_rfl) (by simp) ?_
        refine AllReadyE.cons (o := ({ dst := some 12, op := Op.alloc 68, type := 0, pos := "match.go:137", after := #[], guard := none } : Oper)) rfl (fun K hK => ?_) AllReadyE.nil
        rw [if_pos (by rfl)]
        refine wp_alloc_known 68 rfl (faceC face0) (alloc_face _) ?_
        intro W2 ga hb2 hga hla
        have HLA := Lib.hid (Nat.le_trans hHeld.size hla)
        try (have HNE : Hid (ga ≠ gc) := Lib.hid (fun e => by have := (Array.getElem?_eq_some_iff.1 HC.out).1; omega))
        try (have HC := Lib.hid (blk_none HC.out (gb_below hb2)))
        have HA := Lib.hid hga
        clear hga hla
        have hHeld2 : (show World → Prop from fun W1 => Below W.drew.heap.size W.drew W1) _ := bl_then hHeld hb2
        refine hK.out _ _ (Or.inr hHeld2) (fun _ => ?_)
        clear hK K hHeld
        try clear hb
        have hHeld := hHeld2
        clear hHeld2
        try simp only [Act.put, List.setIfInBounds_toArray, List.set_cons_zero, List.set_cons_succ]
        refine wpAnyE_ready (rs := [11]) (by kernel_rfl) (by simp) ?_
        refine AllReadyE.cons (o := ({ dst := none, op := Op.store 68 (Operand.tmp 12) (Operand.tmp 112), type := 0, pos := "match.go:137", after := #[{ on := 9, ground := Ground.data }, { on := 7, ground := Ground.data }, { on := 5, ground := Ground.chain }, { on := 0, ground := Ground.phase }, { on := 1, ground := Ground.phase }, { on := 2, ground := Ground.phase }, { on := 3, ground := Ground.phase }, { on := 4, ground := Ground.phase }, { on := 5, ground := Ground.phase }, { on := 6, ground := Ground.phase }, { on := 7, ground := Ground.phase }, { on := 8, ground := Ground.textOnly Departure.lateStores }, { on := 9, ground := Ground.phase }, { on := 10, ground := Ground.phase }], guard := none } : Oper)) rfl (fun K hK => ?_) AllReadyE.nil
        rw [if_pos (by rfl)]
        refine wp_store_known 68 (.tmp 12) (.tmp 112) rfl ⟨ga, 0, none⟩ (.agg (faceC (faceE e.p e.x zs))) rfl rfl (store_face face0 _ _ ga _ HA.out) ?_
        have HB3 := Lib.hid (below_setRow hHeld HLA.out (faceC (faceE e.p e.x zs)))
        have HC3 := Lib.hid ((setRow_other _ ga gc (faceC (faceE e.p e.x zs)) (Ne.symm HNE.out)).trans HC.out)
        have HA3 := Lib.hid (setRow_heap _ ga _ (faceC (faceE e.p e.x zs)) _ _ HA.out)
        refine hK.out _ _ (Or.inl ⟨11, by simp, by kernel_rfl⟩) (fun _ => ?_)
        clear hK K
        try clear hHeld
        try clear hb
        try simp only [Act.put, List.setIfInBounds_toArray, List.set_cons_zero, List.set_cons_succ]
        refine wpAnyE_ready (rs := [12]) (by kernel_rfl) (by simp) ?_
        refine AllReadyE.cons (o := ({ dst := none, op := Op.store 68 (Operand.tmp 13) (Operand.tmp 113), type := 0, pos := "match.go:137", after := #[{ on := 10, ground := Ground.data }, { on := 8, ground := Ground.data }, { on := 11, ground := Ground.chain }, { on := 0, ground := Ground.phase }, { on := 1, ground := Ground.phase }, { on := 2, ground := Ground.phase }, { on := 3, ground := Ground.phase }, { on := 4, ground := Ground.phase }, { on := 5, ground := Ground.phase }, { on := 6, ground := Ground.phase }, { on := 7, ground := Ground.phase }, { on := 8, ground := Ground.phase }, { on := 9, ground := Ground.phase }, { on := 10, ground := Ground.phase }, { on := 11, ground := Ground.phase }], guard := none } : Oper)) rfl (fun K hK => ?_) AllReadyE.nil
        rw [if_pos (by rfl)]
        refine wp_store_known 68 (.tmp 13) (.tmp 113) rfl ⟨gc, 0, none⟩ (.agg (faceC (faceO e.p e.x zs))) rfl rfl (store_face face0 _ _ gc _ HC3.out) ?_
        have HB4 := Lib.hid (below_setRow HB3.out HLC.out (faceC (faceO e.p e.x zs)))
        have HA4 := Lib.hid ((setRow_other _ gc ga (faceC (faceO e.p e.x zs)) HNE.out).trans HA3.out)
        have HC4 := Lib.hid (setRow_heap _ gc _ (faceC (faceO e.p e.x zs)) _ _ HC3.out)
        refine hK.out _ _ (Or.inl ⟨12, by simp, by kernel_rfl⟩) (fun _ => ?_)
        clear hK K
        try clear hHeld
        try clear hb
        try simp only [Act.put, List.setIfInBounds_toArray, List.set_cons_zero, List.set_cons_succ]
        refine wpAnyE_done (by kernel_rfl) ?_ _
        refine hK19 _ _ ?_
        exact add_tail19 (F := F) (w := w) (e := e) _ _ _ _ _ _ _ _ _ _ _ _ _ _ _ _ _ _ _ _ _ _ _ _ _ _ _ _ _ _ _ _ _ _ _ _ _ _ _ _ _ _ _ _ _ _ _ _ _ _ _ _ _ _ _ _ _ _ _ _ _ _ _ _ _ _ _ _ _ _ _ _ _ _ _ _ _ _ _ _ _ _ _ _ _ _ _ _ _ _ _ _ _ _ _ _ _ _ _ _ _ _ _ _ _ _ _ _ _ _ _ _ _ _ _ _ _ _ _ _ _ _ _ _ _ _ _ _ _ _ _ _ _ _ _ _ _ _ _ _ _ _ _ _ _ _ _ _ _ _ _ _ _ _ _ _ _ _ _ _ _ _ _ _ _ _ _ _ _ _ _ _ _ _ _ _ _ _ _ _ _ _ _ _ _ _ _ _ _ _ _ _ _ _ _ _ _ _ _ _ _ _ _ _ _ _ _ _ _ _ _ _ _ _ _ _ _ _ _ _ _ _ _ (HM0.out.grow HB4.out) (HR0.out.grow HB4.out) HWW.out HOO.out HOK.out HSH.out HT.out (HPW.out.below HB4.out) ⟨x, by rw [HE.out], blk_none HSB0.out (gb_below HB4.out)⟩ HA4.out HC4.out HEL.out HZL.out HPL.out HPO.out.none_ HPO.out.some_
      refine AllReadyE.cons (o := ({ dst := some 12, op := Op.alloc 68, type := 0, pos := "match.go:137", after := #[], guard := none } : Oper)) rfl (fun K hK => ?_) AllReadyE.nil
      · rw [if_pos (by rfl)]
        refine wp_alloc_known 68 rfl (faceC face0) (alloc_face _) ?_
        intro W2 ga hb2 hga hla
        have HLA := Lib.hid (Nat.le_trans hHeld.size hla)
        try (have HNE : Hid (ga ≠ gc) := Lib.hid (fun e => by have := (Array.getElem?_eq_some_iff.1 HC.out).1; omega))
        try (have HC := Lib.hid (blk_none HC.out (gb_below hb2)))
        have HA := Lib.hid hga
        clear hga hla
        have hHeld2 : (show World → Prop from fun W1 => Below W.drew.heap.size W.drew W1) _ := bl_then hHeld hb2
        refine hK.out _ _ (Or.inr hHeld2) (fun _ => ?_)
        clear hK K hHeld
        try clear hb
        have hHeld := hHeld2
        clear hHeld2
        try simp only [Act.put, List.setIfInBounds_toArray, List.set_cons_zero, List.set_cons_succ]
        refine wpAnyE_ready (rs := [8, 11]) (by kernel_rfl) (by simp) ?_
        refine AllReadyE.cons (o := ({ dst := some 113, op := Op.extract (Operand.tmp 105) 1, type := 68, pos := "match.go:137", after := #[{ on := 6, ground := Ground.data }, { on := 11, ground := Ground.gcOnly Departure.lateStores }], guard := none } : Oper)) rfl (fun K hK => ?_) ?_
        · go_simp
          have hHeld2 : (show World → Prop from fun W1 => Below W.drew.heap.size W.drew W1) _ := hHeld
          refine hK.out _ _ (Or.inr hHeld2) (fun _ => ?_)
          clear hK K hHeld
          try clear hb
          have hHeld := hHeld2
          clear hHeld2
          try simp only [Act.put, List.setIfInBounds_toArray, List.set_cons_zero, List.set_cons_succ]
          refine wpAnyE_ready (rs := [11]) (by kernel_rfl) (by simp) ?_
          refine AllReadyE.cons (o := ({ dst := none, op := Op.store 68 (Operand.tmp 12) (Operand.tmp 112), type := 0, pos := "match.go:137", after := #[{ on := 9, ground := Ground.data }, { on := 7, ground := Ground.data }, { on := 5, ground := Ground.chain }, { on := 0, ground := Ground.phase }, { on := 1, ground := Ground.phase }, { on := 2, ground := Ground.phase }, { on := 3, ground := Ground.phase }, { on := 4, ground := Ground.phase }, { on := 5, ground := Ground.phase }, { on := 6, ground := Ground.phase }, { on := 7, ground := Ground.phase }, { on := 8, ground := Ground.textOnly Departure.lateStores }, { on := 9, ground := Ground.phase }, { on := 10, ground := Ground.phase }], guard := none } : Oper)) rfl (fun K hK => ?_) AllReadyE.nil
          rw [if_pos (by rfl)]
          refine wp_store_known 68 (.tmp 12) (.tmp 112) rfl ⟨ga, 0, none⟩ (.agg (faceC (faceE e.p e.x zs))) rfl rfl (store_face face0 _ _ ga _ HA.out) ?_
          have HB3 := Lib.hid (below_setRow hHeld HLA.out (faceC (faceE e.p e.x zs)))
          have HC3 := Lib.hid ((setRow_other _ ga gc (faceC (faceE e.p e.x zs)) (Ne.symm HNE.out)).trans HC.out)
          have HA3 := Lib.hid (setRow_heap _ ga _ (faceC (faceE e.p e.x zs)) _ _ HA.out)
          refine hK.out _ _ (Or.inl ⟨11, by simp, by kernel_rfl⟩) (fun _ => ?_)
          clear hK K
          try clear hHeld
          try clear hb
          try simp only [Act.put, List.setIfInBounds_toArray, List.set_cons_zero, List.set_cons_succ]
          refine wpAnyE_ready (rs := [12]) (by kernel_rfl) (by simp) ?_
          refine AllReadyE.cons (o := ({ dst := none, op := Op.store 68 (Operand.tmp 13) (Operand.tmp 113), type := 0, pos := "match.go:137", after := #[{ on := 10, ground := Ground.data }, { on := 8, ground := Ground.data }, { on := 11, ground := Ground.chain }, { on := 0, ground := Ground.phase }, { on := 1, ground := Ground.phase }, { on := 2, ground := Ground.phase }, { on := 3, ground := Ground.phase }, { on := 4, ground := Ground.phase }, { on := 5, ground := Ground.phase }, { on := 6, ground := Ground.phase }, { on := 7, ground := Ground.phase }, { on := 8, ground := Ground.phase }, { on := 9, ground := Ground.phase }, { on := 10, ground := Ground.phase }, { on := 11, ground := Ground.phase }], guard := none } : Oper)) rfl (fun K hK => ?_) AllReadyE.nil
          rw [if_pos (by rfl)]
          refine wp_store_known 68 (.tmp 13) (.tmp 113) rfl ⟨gc, 0, none⟩ (.agg (faceC (faceO e.p e.x zs))) rfl rfl (store_face face0 _ _ gc _ HC3.out) ?_
          have HB4 := Lib.hid (below_setRow HB3.out HLC.out (faceC (faceO e.p e.x zs)))
          have HA4 := Lib.hid ((setRow_other _ gc ga (faceC (faceO e.p e.x zs)) HNE.out).trans HA3.out)
          have HC4 := Lib.hid (setRow_heap _ gc _ (faceC (faceO e.p e.x zs)) _ _ HC3.out)
          refine hK.out _ _ (Or.inl ⟨12, by simp, by kernel_rfl⟩) (fun _ => ?_)
          clear hK K
          try clear hHeld
          try clear hb
          try simp only [Act.put, List.setIfInBounds_toArray, List.set_cons_zero, List.set_cons_succ]
          refine wpAnyE_done (by kernel_rfl) ?_ _
          refine hK19 _ _ ?_
          exact add_tail19 (F := F) (w := w) (e := e) _ _ _ _ _ _ _ _ _ _ _ _ _ _ _ _ _ _ _ _ _ _ _ _ _ _ _ _ _ _ _ _ _ _ _ _ _ _ _ _ _ _ _ _ _ _ _ _ _ _ _ _ _ _ _ _ _ _ _ _ _ _ _ _ _ _ _ _ _ _ _ _ _ _ _ _ _ _ _ _ _ _ _ _ _ _ _ _ _ _ _ _ _ _ _ _ _ _ _ _ _ _ _ _ _ _ _ _ _ _ _ _ _ _ _ _ _ _ _ _ _ _ _ _ _ _ _ _ _ _ _ _ _ _ _ _ _ _ _ _ _ _ _ _ _ _ _ _ _ _ _ _ _ _ _ _ _ _ _ _ _ _ _ _ _ _ _ _ _ _ _ _ _ _ _ _ _ _ _ _ _ _ _ _ _ _ _ _ _ _ _ _ _ _ _ _ _ _ _ _ _ _ _ _ _ _ _ _ _ _ _ _ _ _ _ _ _ _ _ _ _ _ _ (HM0.out.grow HB4.out) (HR0.out.grow HB4.out) HWW.out HOO.out HOK.out HSH.out HT.out (HPW.out.below HB4.out) ⟨x, by rw [HE.out], blk_none HSB0.out (gb_below HB4.out)⟩ HA4.out HC4.out HEL.out HZL.out HPL.out HPO.out.none_ HPO.out.some_
        refine AllReadyE.cons (o := ({ dst := none, op := Op.store 68 (Operand.tmp 12) (Operand.tmp 112), type := 0, pos := "match.go:137", after := #[{ on := 9, ground := Ground.data }, { on := 7, ground := Ground.data }, { on := 5, ground := Ground.chain }, { on := 0, ground := Ground.phase }, { on := 1, ground := Ground.phase }, { on := 2, ground := Ground.phase }, { on := 3, ground := Ground.phase }, { on := 4, ground := Ground.phase }, { on := 5, ground := Ground.phase }, { on := 6, ground := Ground.phase }, { on := 7, ground := Ground.phase }, { on := 8, ground := Ground.textOnly Departure.lateStores }, { on := 9, ground := Ground.phase }, { on := 10, ground := Ground.phase }], guard := none } : Oper)) rfl (fun K hK => ?_) AllReadyE.nil
        · rw [if_pos (by rfl)]
          refine wp_store_known 68 (.tmp 12) (.tmp 112) rfl ⟨ga, 0, none⟩ (.agg (faceC (faceE e.p e.x zs))) rfl rfl (store_face face0 _ _ ga _ HA.out) ?_
          have HB3 := Lib.hid (below_setRow hHeld HLA.out (faceC (faceE e.p e.x zs)))
          have HC3 := Lib.hid ((setRow_other _ ga gc (faceC (faceE e.p e.x zs)) (Ne.symm HNE.out)).trans HC.out)
          have HA3 := Lib.hid (setRow_heap _ ga _ (faceC (faceE e.p e.x zs)) _ _ HA.out)
          refine hK.out _ _ (Or.inl ⟨11, by simp, by kernel_rfl⟩) (fun _ => ?_)
          clear hK K
          try clear hHeld
          try clear hb
          try simp only [Act.put, List.setIfInBounds_toArray, List.set_cons_zero, List.set_cons_succ]
          refine wpAnyE_ready (rs := [8]) (by kernel_rfl) (by simp) ?_
          refine AllReadyE.cons (o := ({ dst := some 113, op := Op.extract (Operand.tmp 105) 1, type := 68, pos := "match.go:137", after := #[{ on := 6, ground := Ground.data }, { on := 11, ground := Ground.gcOnly Departure.lateStores }], guard := none } : Oper)) rfl (fun K hK => ?_) AllReadyE.nil
          go_simp
          refine hK.out _ _ (Or.inl ⟨11, by simp, by kernel_rfl⟩) (fun _ => ?_)
          clear hK K
          try clear hHeld
          try clear hb
          try simp only [Act.put, List.setIfInBounds_toArray, List.set_cons_zero, List.set_cons_succ]
          refine wpAnyE_ready (rs := [12]) (by kernel_rfl) (by simp) ?_
          refine AllReadyE.cons (o := ({ dst := none, op := Op.store 68 (Operand.tmp 13) (Operand.tmp 113), type := 0, pos := "match.go:137", after := #[{ on := 10, ground := Ground.data }, { on := 8, ground := Ground.data }, { on := 11, ground := Ground.chain }, { on := 0, ground := Ground.phase }, { on := 1, ground := Ground.phase }, { on := 2, ground := Ground.phase }, { on := 3, ground := Ground.phase }, { on := 4, ground := Ground.phase }, { on := 5, ground := Ground.phase }, { on := 6, ground := Ground.phase }, { on := 7, ground := Ground.phase }, { on := 8, ground := Ground.phase }, { on := 9, ground := Ground.phase }, { on := 10, ground := Ground.phase }, { on := 11, ground := Ground.phase }], guard := none } : Oper)) rfl (fun K hK => ?_) AllReadyE.nil
          rw [if_pos (by rfl)]
          refine wp_store_known 68 (.tmp 13) (.tmp 113) rfl ⟨gc, 0, none⟩ (.agg (faceC (faceO e.p e.x zs))) rfl rfl (store_face face0 _ _ gc _ HC3.out) ?_
          have HB4 := Lib.hid (below_setRow HB3.out HLC.out (faceC (faceO e.p e.x zs)))
          have HA4 := Lib.hid ((setRow_other _ gc ga (faceC (faceO e.p e.x zs)) HNE.out).trans HA3.out)
          have HC4 := Lib.hid (setRow_heap _ gc _ (faceC (faceO e.p e.x zs)) _ _ HC3.out)
          refine hK.out _ _ (Or.inl ⟨12, by simp, by kernel_rfl⟩) (fun _ => ?_)
          clear hK K
          try clear hHeld
          try clear hb
          try simp only [Act.put, List.setIfInBounds_toArray, List.set_cons_zero, List.set_cons_succ]
          refine wpAnyE_done (by kernel_rfl) ?_ _
          refine hK19 _ _ ?_
          exact add_tail19 (F := F) (w := w) (e := e) _ _ _ _ _ _ _ _ _ _ _ _ _ _ _ _ _ _ _ _ _ _ _ _ _ _ _ _ _ _ _ _ _ _ _ _ _ _ _ _ _ _ _ _ _ _ _ _ _ _ _ _ _ _ _ _ _ _ _ _ _ _ _ _ _ _ _ _ _ _ _ _ _ _ _ _ _ _ _ _ _ _ _ _ _ _ _ _ _ _ _ _ _ _ _ _ _ _ _ _ _ _ _ _ _ _ _ _ _ _ _ _ _ _ _ _ _ _ _ _ _ _ _ _ _ _ _ _ _ _ _ _ _ _ _ _ _ _ _ _ _ _ _ _ _ _ _ _ _ _ _ _ _ _ _ _ _ _ _ _ _ _ _ _ _ _ _ _ _ _ _ _ _ _ _ _ _ _ _ _ _ _ _ _ _ _ _ _ _ _ _ _ _ _ _ _ _ _ _ _ _ _ _ _ _ _ _ _ _ _ _ _ _ _ _ _ _ _ _ _ _ _ _ (HM0.out.grow HB4.out) (HR0.out.grow HB4.out) HWW.out HOO.out HOK.out HSH.out HT.out (HPW.out.below HB4.out) ⟨x, by rw [HE.out], blk_none HSB0.out (gb_below HB4.out)⟩ HA4.out HC4.out HEL.out HZL.out HPL.out HPO.out.none_ HPO.out.some_
    refine AllReadyE.cons (o := ({ dst := some 12, op := Op.alloc 68, type := 0, pos := "match.go:137", after := #[], guard := none } : Oper)) rfl (fun K hK => ?_) AllReadyE.nil
    · rw [if_pos (by rfl)]
      refine wp_alloc_known 68 rfl (faceC face0) (alloc_face _) ?_
      intro W2 ga hb2 hga hla
      have HLA := Lib.hid (Nat.le_trans hHeld.size hla)
      try (have HNE : Hid (ga ≠ gc) := Lib.hid (fun e => by have := (Array.getElem?_eq_some_iff.1 HC.out).1; omega))
      try (have HC := Lib.hid (blk_none HC.out (gb_below hb2)))
      have HA := Lib.hid hga
      clear hga hla
      have hHeld2 : (show World → Prop from fun W1 => Below W.drew.heap.size W.drew W1) _ := bl_then hHeld hb2
      refine hK.out _ _ (Or.inr hHeld2) (fun _ => ?_)
      clear hK K hHeld
      try clear hb
      have hHeld := hHeld2
      clear hHeld2
      try simp only [Act.put, List.setIfInBounds_toArray, List.set_cons_zero, List.set_cons_succ]
      refine wpAnyE_ready (rs := [5]) (by kernel_rfl) (by simp) ?_
      refine AllReadyE.cons (o := ({ dst := some 111, op := Op.call { callee := Callee.value (Operand.func 23), args := #[Operand.tmp 106, Operand.tmp 110], argTypes := #[28, 29] }, type := 69, pos := "match.go:137", after := #[{ on := 0, ground := Ground.data }, { on := 4, ground := Ground.data }], guard := none } : Oper)) rfl (fun K hK => ?_) AllReadyE.nil
      go_simp
      go_at_call 23
      (with_reducible refine (HFO.out _ hHeld).mono ?_)
      rintro e1 W2 ⟨rfl, hb2⟩
      try (have HA := Lib.hid (blk_none HA.out (gb_below hb2)))
      try (have HC := Lib.hid (blk_none HC.out (gb_below hb2)))
      have hHeld2 : (show World → Prop from fun W1 => Below W.drew.heap.size W.drew W1) _ := bl_then hHeld hb2
      refine hK.out _ _ (Or.inr hHeld2) (fun _ => ?_)
      clear hK K hHeld
      try clear hb
      have hHeld := hHeld2
      clear hHeld2
      try simp only [Act.put, List.setIfInBounds_toArray, List.set_cons_zero, List.set_cons_succ]
      refine wpAnyE_take (i := 6) (oi := ({ dst := some 105, op := Op.move (Operand.tmp 111), type := 69, pos := "match.go:137", after := #[{ on := 5, ground := Ground.data }], guard := none } : Oper)) (v := ?_) rfl (by kernel_rfl) (by kernel_rfl) (by kernel_rfl) (by kernel_rfl) (fun _ _ _ h => h) (Or.inl ⟨by rfl, ?_⟩) hHeld ?_
      rotate_left
      · intro w' hSw; (try dsimp only at hSw); go_simp <;> with_reducible rfl
      try simp only [Act.put, List.setIfInBounds_toArray, List.set_cons_zero, List.set_cons_succ]
      refine wpAnyE_take (i := 7) (oi := ({ dst := some 112, op := Op.extract (Operand.tmp 105) 0, type := 68, pos := "match.go:137", after := #[{ on := 6, ground := Ground.data }], guard := none } : Oper)) (v := ?_) rfl (by kernel_rfl) (by kernel_rfl) (by kernel_rfl) (by kernel_rfl) (fun _ _ _ h => h) (Or.inl ⟨by rfl, ?_⟩) hHeld ?_
      rotate_left
      · intro w' hSw; (try dsimp only at hSw); go_simp <;> with_reducible rfl
      try simp only [Act.put, List.setIfInBounds_toArray, List.set_cons_zero, List.set_cons_succ]
      refine wpAnyE_ready (rs := [8, 11]) (by kernel_rfl) (by simp) ?_
      refine AllReadyE.cons (o := ({ dst := some 113, op := Op.extract (Operand.tmp 105) 1, type := 68, pos := "match.go:137", after := #[{ on := 6, ground := Ground.data }, { on := 11, ground := Ground.gcOnly Departure.lateStores }], guard := none } : Oper)) rfl (fun K hK => ?_) ?_
      · go_simp
        have hHeld2 : (show World → Prop from fun W1 => Below W.drew.heap.size W.drew W1) _ := hHeld
        refine hK.out _ _ (Or.inr hHeld2) (fun _ => ?_)
        clear hK K hHeld
        try clear hb
        have hHeld := hHeld2
        clear hHeld2
        try simp only [Act.put, List.setIfInBounds_toArray, List.set_cons_zero, List.set_cons_succ]
        refine wpAnyE_ready (rs := [11]) (by kernel_rfl) (by simp) ?_
        refine AllReadyE.cons (o := ({ dst := none, op := Op.store 68 (Operand.tmp 12) (Operand.tmp 112), type := 0, pos := "match.go:137", after := #[{ on := 9, ground := Ground.data }, { on := 7, ground := Ground.data }, { on := 5, ground := Ground.chain }, { on := 0, ground := Ground.phase }, { on := 1, ground := Ground.phase }, { on := 2, ground := Ground.phase }, { on := 3, ground := Ground.phase }, { on := 4, ground := Ground.phase }, { on := 5, ground := Ground.phase }, { on := 6, ground := Ground.phase }, { on := 7, ground := Ground.phase }, { on := 8, ground := Ground.textOnly Departure.lateStores }, { on := 9, ground := Ground.phase }, { on := 10, ground := Ground.phase }], guard := none } : Oper)) rfl (fun K hK => ?_) AllReadyE.nil
        rw [if_pos (by rfl)]
        refine wp_store_known 68 (.tmp 12) (.tmp 112) rfl ⟨ga, 0, none⟩ (.agg (faceC (faceE e.p e.x zs))) rfl rfl (store_face face0 _ _ ga _ HA.out) ?_
        have HB3 := Lib.hid (below_setRow hHeld HLA.out (faceC (faceE e.p e.x zs)))
        have HC3 := Lib.hid ((setRow_other _ ga gc (faceC (faceE e.p e.x zs)) (Ne.symm HNE.out)).trans HC.out)
        have HA3 := Lib.hid (setRow_heap _ ga _ (faceC (faceE e.p e.x zs)) _ _ HA.out)
        refine hK.out _ _ (Or.inl ⟨11, by simp, by kernel_rfl⟩) (fun _ => ?_)
        clear hK K
        try clear hHeld
        try clear hb
        try simp only [Act.put, List.setIfInBounds_toArray, List.set_cons_zero, List.set_cons_succ]
        refine wpAnyE_ready (rs := [12]) (by kernel_rfl) (by simp) ?_
        refine AllReadyE.cons (o := ({ dst := none, op := Op.store 68 (Operand.tmp 13) (Operand.tmp 113), type := 0, pos := "match.go:137", after := #[{ on := 10, ground := Ground.data }, { on := 8, ground := Ground.data }, { on := 11, ground := Ground.chain }, { on := 0, ground := Ground.phase }, { on := 1, ground := Ground.phase }, { on := 2, ground := Ground.phase }, { on := 3, ground := Ground.phase }, { on := 4, ground := Ground.phase }, { on := 5, ground := Ground.phase }, { on := 6, ground := Ground.phase }, { on := 7, ground := Ground.phase }, { on := 8, ground := Ground.phase }, { on := 9, ground := Ground.phase }, { on := 10, ground := Ground.phase }, { on := 11, ground := Ground.phase }], guard := none } : Oper)) rfl (fun K hK => ?_) AllReadyE.nil
        rw [if_pos (by rfl)]
        refine wp_store_known 68 (.tmp 13) (.tmp 113) rfl ⟨gc, 0, none⟩ (.agg (faceC (faceO e.p e.x zs))) rfl rfl (store_face face0 _ _ gc _ HC3.out) ?_
        have HB4 := Lib.hid (below_setRow HB3.out HLC.out (faceC (faceO e.p e.x zs)))
        have HA4 := Lib.hid ((setRow_other _ gc ga (faceC (faceO e.p e.x zs)) HNE.out).trans HA3.out)
        have HC4 := Lib.hid (setRow_heap _ gc _ (faceC (faceO e.p e.x zs)) _ _ HC3.out)
        refine hK.out _ _ (Or.inl ⟨12, by simp, by kernel_rfl⟩) (fun _ => ?_)
        clear hK K
        try clear hHeld
        try clear hb
        try simp only [Act.put, List.setIfInBounds_toArray, List.set_cons_zero, List.set_cons_succ]
        refine wpAnyE_done (by kernel_rfl) ?_ _
        refine hK19 _ _ ?_
        exact add_tail19 (F := F) (w := w) (e := e) _ _ _ _ _ _ _ _ _ _ _ _ _ _ _ _ _ _ _ _ _ _ _ _ _ _ _ _ _ _ _ _ _ _ _ _ _ _ _ _ _ _ _ _ _ _ _ _ _ _ _ _ _ _ _ _ _ _ _ _ _ _ _ _ _ _ _ _ _ _ _ _ _ _ _ _ _ _ _ _ _ _ _ _ _ _ _ _ _ _ _ _ _ _ _ _ _ _ _ _ _ _ _ _ _ _ _ _ _ _ _ _ _ _ _ _ _ _ _ _ _ _ _ _ _ _ _ _ _ _ _ _ _ _ _ _ _ _ _ _ _ _ _ _ _ _ _ _ _ _ _ _ _ _ _ _ _ _ _ _ _ _ _ _ _ _ _ _ _ _ _ _ _ _ _ _ _ _ _ _ _ _ _ _ _ _ _ _ _ _ _ _ _ _ _ _ _ _ _ _ _ _ _ _ _ _ _ _ _ _ _ _ _ _ _ _ _ _ _ _ _ _ _ (HM0.out.grow HB4.out) (HR0.out.grow HB4.out) HWW.out HOO.out HOK.out HSH.out HT.out (HPW.out.below HB4.out) ⟨x, by rw [HE.out], blk_none HSB0.out (gb_below HB4.out)⟩ HA4.out HC4.out HEL.out HZL.out HPL.out HPO.out.none_ HPO.out.some_
      refine AllReadyE.cons (o := ({ dst := none, op := Op.store 68 (Operand.tmp 12) (Operand.tmp 112), type := 0, pos := "match.go:137", after := #[{ on := 9, ground := Ground.data }, { on := 7, ground := Ground.data }, { on := 5, ground := Ground.chain }, { on := 0, ground := Ground.phase }, { on := 1, ground := Ground.phase }, { on := 2, ground := Ground.phase }, { on := 3, ground := Ground.phase }, { on := 4, ground := Ground.phase }, { on := 5, ground := Ground.phase }, { on := 6, ground := Ground.phase }, { on := 7, ground := Ground.phase }, { on := 8, ground := Ground.textOnly Departure.lateStores }, { on := 9, ground := Ground.phase }, { on := 10, ground := Ground.phase }], guard := none } : Oper)) rfl (fun K hK => ?_) AllReadyE.nil
      · rw [if_pos (by rfl)]
        refine wp_store_known 68 (.tmp 12) (.tmp 112) rfl ⟨ga, 0, none⟩ (.agg (faceC (faceE e.p e.x zs))) rfl rfl (store_face face0 _ _ ga _ HA.out) ?_
        have HB3 := Lib.hid (below_setRow hHeld HLA.out (faceC (faceE e.p e.x zs)))
        have HC3 := Lib.hid ((setRow_other _ ga gc (faceC (faceE e.p e.x zs)) (Ne.symm HNE.out)).trans HC.out)
        have HA3 := Lib.hid (setRow_heap _ ga _ (faceC (faceE e.p e.x zs)) _ _ HA.out)
        refine hK.out _ _ (Or.inl ⟨11, by simp, by kernel_rfl⟩) (fun _ => ?_)
        clear hK K
        try clear hHeld
        try clear hb
        try simp only [Act.put, List.setIfInBounds_toArray, List.set_cons_zero, List.set_cons_succ]
        refine wpAnyE_ready (rs := [8]) (by kernel_rfl) (by simp) ?_
        refine AllReadyE.cons (o := ({ dst := some 113, op := Op.extract (Operand.tmp 105) 1, type := 68, pos := "match.go:137", after := #[{ on := 6, ground := Ground.data }, { on := 11, ground := Ground.gcOnly Departure.lateStores }], guard := none } : Oper)) rfl (fun K hK => ?_) AllReadyE.nil
        go_simp
        refine hK.out _ _ (Or.inl ⟨11, by simp, by kernel_rfl⟩) (fun _ => ?_)
        clear hK K
        try clear hHeld
        try clear hb
        try simp only [Act.put, List.setIfInBounds_toArray, List.set_cons_zero, List.set_cons_succ]
        refine wpAnyE_ready (rs := [12]) (by kernel_rfl) (by simp) ?_
        refine AllReadyE.cons (o := ({ dst := none, op := Op.store 68 (Operand.tmp 13) (Operand.tmp 113), type := 0, pos := "match.go:137", after := #[{ on := 10, ground := Ground.data }, { on := 8, ground := Ground.data }, { on := 11, ground := Ground.chain }, { on := 0, ground := Ground.phase }, { on := 1, ground := Ground.phase }, { on := 2, ground := Ground.phase }, { on := 3, ground := Ground.phase }, { on := 4, ground := Ground.phase }, { on := 5, ground := Ground.phase }, { on := 6, ground := Ground.phase }, { on := 7, ground := Ground.phase }, { on := 8, ground := Ground.phase }, { on := 9, ground := Ground.phase }, { on := 10, ground := Ground.phase }, { on := 11, ground := Ground.phase }], guard := none } : Oper)) rfl (fun K hK => ?_) AllReadyE.nil
        rw [if_pos (by rfl)]
        refine wp_store_known 68 (.tmp 13) (.tmp 113) rfl ⟨gc, 0, none⟩ (.agg (faceC (faceO e.p e.x zs))) rfl rfl (store_face face0 _ _ gc _ HC3.out) ?_
        have HB4 := Lib.hid (below_setRow HB3.out HLC.out (faceC (faceO e.p e.x zs)))
        have HA4 := Lib.hid ((setRow_other _ gc ga (faceC (faceO e.p e.x zs)) HNE.out).trans HA3.out)
        have HC4 := Lib.hid (setRow_heap _ gc _ (faceC (faceO e.p e.x zs)) _ _ HC3.out)
        refine hK.out _ _ (Or.inl ⟨12, by simp, by kernel_rfl⟩) (fun _ => ?_)
        clear hK K
        try clear hHeld
        try clear hb
        try simp only [Act.put, List.setIfInBounds_toArray, List.set_cons_zero, List.set_cons_succ]
        refine wpAnyE_done (by kernel_rfl) ?_ _
        refine hK19 _ _ ?_
        exact add_tail19 (F := F) (w := w) (e := e) _ _ _ _ _ _ _ _ _ _ _ _ _ _ _ _ _ _ _ _ _ _ _ _ _ _ _ _ _ _ _ _ _ _ _ _ _ _ _ _ _ _ _ _ _ _ _ _ _ _ _ _ _ _ _ _ _ _ _ _ _ _ _ _ _ _ _ _ _ _ _ _ _ _ _ _ _ _ _ _ _ _ _ _ _ _ _ _ _ _ _ _ _ _ _ _ _ _ _ _ _ _ _ _ _ _ _ _ _ _ _ _ _ _ _ _ _ _ _ _ _ _ _ _ _ _ _ _ _ _ _ _ _ _ _ _ _ _ _ _ _ _ _ _ _ _ _ _ _ _ _ _ _ _ _ _ _ _ _ _ _ _ _ _ _ _ _ _ _ _ _ _ _ _ _ _ _ _ _ _ _ _ _ _ _ _ _ _ _ _ _ _ _ _ _ _ _ _ _ _ _ _ _ _ _ _ _ _ _ _ _ _ _ _ _ _ _ _ _ _ _ _ _ (HM0.out.grow HB4.out) (HR0.out.grow HB4.out) HWW.out HOO.out HOK.out HSH.out HT.out (HPW.out.below HB4.out) ⟨x, by rw [HE.out], blk_none HSB0.out (gb_below HB4.out)⟩ HA4.out HC4.out HEL.out HZL.out HPL.out HPO.out.none_ HPO.out.some_
end Go.Proofs.YtphabkaiheplpaaGreatDoor
