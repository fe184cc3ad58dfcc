/- Joined texts of this proof: BkA33. -/
import Derived.Outline
import Derived.Test.YtphabkaiheplpaaGreatDoorTurns22
/- (*match.Book).Add, its end where no other side has been found: the new side waits. -/
set_option linter.unusedVariables false
set_option linter.unusedSimpArgs false
set_option maxRecDepth 100000
namespace Go.Proofs.YtphabkaiheplpaaGreatDoor
open Go.RowKit Go.Shelf Go.Maps
open Go.ChangeMaps (setBlock)

theorem cells_one {W : World} {g : Nat} {v : Value} {T : TypeId} (h : W.heap[g]? = some (.cells #[v] T (0, 0))) : ∀ j u, [v][j]? = some u → W.cell? ((⟨g, 0, none⟩ : Addr).add j) = some u := by
  intro j u hj
  cases j with
  | zero =>
    have e : (⟨g, 0, none⟩ : Addr).add 0 = ⟨g, 0, none⟩ := rfl
    rw [e, cell_of_row W g 0 _ _ _ h]
    exact hj
  | succ j => simp at hj
/-- A block of another kind stays while a row is written. -/
theorem row_kept_other {W W1 : World} {b : Nat} {C : Array Value} {T : TypeId} {base : Nat} {e : TypeId} {size n : Nat} {v : Value} {xs : List Value} (h : W.heap[b]? = some (.cells C T (0, 0))) (hr : W.ownsRow base e size v n xs) (hne : e ≠ T) (hs : W.grownBy W1 v.ownBlock) : W1.heap[b]? = some (.cells C T (0, 0)) := by
  refine (hs.block b (Array.getElem?_eq_some_iff.1 h).1 (fun e1 => ?_)).trans h
  obtain ⟨cur, hc⟩ := row_obj hr e1.symm
  rw [h] at hc
  injection hc with hc
  injection hc with _ h2 _
  exact hne h2.symm
noncomputable def tail33 : Code := ((Tryz.f10.body.bind (fromR 33)).getD .skip)
set_option maxHeartbeats 4000000 in
set_option maxRecDepth 1000000 in
theorem add_tail33 {F : Nat → Prop} {w W : World} {b a : Nat} {tv ev pv : Value} {m1 m2 : Nat} {ws : List Wq} {zs : List ByteArray} {tol : Int} {nm : List (Value × Value)} {es : List Ent} {ps : List Pr} {e : Ent} (u1 u2 u3 u4 u5 u6 u7 u8 u9 u10 u13 u14 u15 u16 u17 u18 u19 u20 u21 u22 u23 u24 u25 u26 u27 u28 u29 u30 u31 u32 u33 u34 u35 u36 u37 u38 u39 u40 u41 u42 u43 u44 u45 u46 u47 u48 u49 u50 u51 u52 u53 u54 u55 u56 u57 u58 u59 u60 u61 u62 u63 u64 u65 u66 u67 u68 u69 u70 u71 u72 u73 u74 u75 u76 u77 u78 u79 u80 u81 u82 u83 u84 u85 u86 u87 u88 u89 u90 u91 u92 u93 u94 u95 u96 u97 u98 u99 u100 u101 u102 u103 u104 u105 u106 u107 u108 u109 u110 u111 u112 u113 u114 u115 u116 u117 u118 u119 u120 u121 u122 u123 u124 u125 u126 u127 u128 u129 u130 u131 u132 u133 u134 u135 u136 u137 u138 u139 u140 u141 u142 u143 u144 u145 u146 u147 u148 u149 u150 u151 u152 u153 u154 u155 u156 u157 u158 u159 u160 u161 u162 u163 u164 u165 u166 u167 u168 u169 u170 u171 u172 u173 u174 u175 u176 u177 u178 u179 u180 u181 u182 u183 u184 u185 u186 u187 u188 u189 u190 u191 u192 u193 u194 u195 u196 u197 u198 u199 u200 u201 u202 u203 u204 u205 u206 u207 u208 u209 u210 u211 u212 u213 u214 u215 u216 u217 u218 u219 u220 u221 u222 u223 u224 u225 u226 u227 : Value) {Φ : Ending → World → Prop}
    (HM : BkM F w W b tv ev pv m1 m2 (ws.map kwF) #[tv, .int .i64 tol, ev, .map (some m1), .map (some m2), pv] zs nm (es ++ [e]) ps) (HR : WsR F w.heap.size W ws) (HW : WsOk zs es ws) (ho : openB e = true) (hf : (faceE e.p e.x zs).wf)
    (hface : W.heap[a]? = some (.cells (faceC (faceE e.p e.x zs)) 68 (0, 0))) (hn : (es.length + 1) * 8 ≤ 140737488355328)
    (post : ∀ (W' : World) (ws' : List Wq), BkM F w W' b tv ev pv m1 m2 (ws'.map kwF) #[tv, .int .i64 tol, ev, .map (some m1), .map (some m2), pv] zs nm (es ++ [e]) ps → WsR F w.heap.size W' ws' → WsOk zs (es ++ [e]) ws' → Φ (.returned (.tuple #[.int .i64 es.length, .int .i64 (-1), .nilIface])) W') :
    Code.wp Tryz.prog tail33 (bodyPost Tryz.prog Tryz.f10 Φ) ⟨#[.pointer (some ⟨b, 0, none⟩), u1, u2, u3, u4, u5, u6, u7, u8, u9, u10, .int .i64 (es.length : Int), .pointer (some ⟨a, 0, none⟩), u13, u14, u15, u16, u17, u18, u19, u20, u21, u22, u23, u24, u25, u26, u27, u28, u29, u30, u31, u32, u33, u34, u35, u36, u37, u38, u39, u40, u41, u42, u43, u44, u45, u46, u47, u48, u49, u50, u51, u52, u53, u54, u55, u56, u57, u58, u59, u60, u61, u62, u63, u64, u65, u66, u67, u68, u69, u70, u71, u72, u73, u74, u75, u76, u77, u78, u79, u80, u81, u82, u83, u84, u85, u86, u87, u88, u89, u90, u91, u92, u93, u94, u95, u96, u97, u98, u99, u100, u101, u102, u103, u104, u105, u106, u107, u108, u109, u110, u111, u112, u113, u114, u115, u116, u117, u118, u119, u120, u121, u122, u123, u124, u125, u126, u127, u128, u129, u130, u131, u132, u133, u134, u135, u136, u137, u138, u139, u140, u141, u142, u143, u144, u145, u146, u147, u148, u149, u150, u151, u152, u153, u154, u155, u156, u157, u158, u159, u160, u161, u162, u163, u164, u165, u166, u167, u168, u169, u170, u171, u172, u173, u174, u175, u176, u177, u178, u179, u180, u181, u182, u183, u184, u185, u186, u187, u188, u189, u190, u191, u192, u193, u194, u195, u196, u197, u198, u199, u200, u201, u202, u203, u204, u205, u206, u207, u208, u209, u210, u211, u212, u213, u214, u215, u216, u217, u218, u219, u220, u221, u222, u223, u224, u225, u226, u227], []⟩ W := by
  obtain ⟨i0, hi, hz0, hz1, hz2⟩ := Sp.info_of Sp.A_infoI
  have HMW := Lib.hid HM
  have HRW := Lib.hid HR
  have HM0 := Lib.hid HM.drew
  have HR0 := Lib.hid HR.drew
  have HF0 : Hid (W.drew.heap[a]? = some (.cells (faceC (faceE e.p e.x zs)) 68 (0, 0))) := Lib.hid hface
  have HP := Lib.hid post
  have HWW := Lib.hid HW
  have HOO := Lib.hid ho
  have HFF := Lib.hid hf
  have LF := Lib.hid (fun W1 h => load_face (faceE e.p e.x zs) W1 a 68 h)
  have hlen : Hid ((es.length + 1) * 8 ≤ 140737488355328) := Lib.hid hn
  clear HM HR hface post HW ho hf hn
  conv => arg 2; whnf
  dsimp only
  go_upto_region 33 with fail
  refine wp_region_heldE (S := fun W1 => W1.heap[b]? = some (.cells #[tv, .int .i64 tol, ev, .map (some m1), .map (some m2), pv] 82 (0, 0)) ∧ W1.heap[a]? = some (.cells (faceC (faceE e.p e.x zs)) 68 (0, 0))) (ds := [11]) (by kernel_rfl) (⟨HM0.out.book, HF0.out⟩) (fun hHeld => ?_)
  refine wpAnyE_take (i := 0) (oi := ({ dst := some 216, op := Op.move (Operand.tmp 0), type := 33, pos := "match.go:153", after := #[], guard := none } : Oper)) (v := ?_) rfl (by kernel_rfl) (by kernel_rfl) (by kernel_rfl) (by kernel_rfl) (fun _ _ _ h => h) (Or.inl ⟨by rfl, ?_⟩) hHeld ?_
  rotate_left
  · intro w' hSw; (try dsimp only at hSw); go_simp <;> with_reducible rfl
  try simp only [Act.put, List.setIfInBounds_toArray, List.set_cons_zero, List.set_cons_succ]
  refine wpAnyE_take (i := 1) (oi := ({ dst := some 217, op := Op.nilCheck (Operand.tmp 216), type := 0, pos := "match.go:153", after := #[{ on := 0, ground := Ground.data }], guard := none } : Oper)) (v := ?_) rfl (by kernel_rfl) (by kernel_rfl) (by kernel_rfl) (by kernel_rfl) (fun _ _ _ h => h) (Or.inl ⟨by rfl, ?_⟩) hHeld ?_
  rotate_left
  · intro w' hSw; (try dsimp only at hSw); go_simp <;> with_reducible rfl
  try simp only [Act.put, List.setIfInBounds_toArray, List.set_cons_zero, List.set_cons_succ]
  refine wpAnyE_take (i := 2) (oi := ({ dst := some 218, op := Op.fieldAddr 82 (Operand.tmp 217) 4, type := 0, pos := "match.go:153", after := #[{ on := 1, ground := Ground.data }], guard := none } : Oper)) (v := ?_) rfl (by kernel_rfl) (by kernel_rfl) (by kernel_rfl) (by kernel_rfl) (fun _ _ _ h => h) (Or.inl ⟨by rfl, ?_⟩) hHeld ?_
  rotate_left
  · intro w' hSw; (try dsimp only at hSw); go_simp <;> with_reducible rfl
  try simp only [Act.put, List.setIfInBounds_toArray, List.set_cons_zero, List.set_cons_succ]
  refine wpAnyE_take (i := 3) (oi := ({ dst := some 219, op := Op.load 78 (Operand.tmp 218), type := 78, pos := "match.go:153", after := #[{ on := 2, ground := Ground.data }], guard := none } : Oper)) (v := ?_) rfl (by kernel_rfl) (by kernel_rfl) (by kernel_rfl) (by kernel_rfl) (fun _ _ _ h => h) (Or.inl ⟨by rfl, ?_⟩) hHeld ?_
  rotate_left
  · intro w' hSw; (try dsimp only at hSw); have hcf := cell_of_row w' b 4 _ _ _ hSw.1; go_simp <;> with_reducible rfl
  try simp only [Act.put, List.setIfInBounds_toArray, List.set_cons_zero, List.set_cons_succ]
  refine wpAnyE_take (i := 4) (oi := ({ dst := some 220, op := Op.load 68 (Operand.tmp 12), type := 68, pos := "match.go:153", after := #[], guard := none } : Oper)) (v := .agg (faceC (faceE e.p e.x zs))) rfl (by kernel_rfl) (by kernel_rfl) (by kernel_rfl) (by kernel_rfl) (fun _ _ _ h => h) (yieldsIf_load_known (by rfl) 68 (Operand.tmp 12) rfl ⟨a, 0, none⟩ (.agg (faceC (faceE e.p e.x zs))) rfl (fun w' h => LF.out w' h.2)) hHeld ?_
  try simp only [Act.put, List.setIfInBounds_toArray, List.set_cons_zero, List.set_cons_succ]
  refine wpAnyE_take (i := 5) (oi := ({ dst := some 222, op := Op.move (Operand.tmp 11), type := 3, pos := "match.go:153", after := #[], guard := none } : Oper)) (v := ?_) rfl (by kernel_rfl) (by kernel_rfl) (by kernel_rfl) (by kernel_rfl) (fun _ _ _ h => h) (Or.inl ⟨by rfl, ?_⟩) hHeld ?_
  rotate_left
  · intro w' hSw; (try dsimp only at hSw); go_simp <;> with_reducible rfl
  try simp only [Act.put, List.setIfInBounds_toArray, List.set_cons_zero, List.set_cons_succ]
  refine wpAnyE_ready (rs := [6]) (by kernel_rfl) (by simp) ?_
  refine AllReadyE.cons (o := ({ dst := some 223, op := Op.buildSlice 94 1 #[(0, Operand.tmp 222)], type := 94, pos := "match.go:153", after := #[{ on := 5, ground := Ground.data }], guard := none } : Oper)) rfl (fun K hK => ?_) AllReadyE.nil
  go_simp
  have HM1 := Lib.hid ((HMW.out.grow (bl_alloc (bl_refl W) (.cells #[.int .i64 (es.length : Int)] 3))).drew)
  have HR1 := Lib.hid ((HRW.out.grow (bl_alloc (bl_refl W) (.cells #[.int .i64 (es.length : Int)] 3))).drew)
  have HF1 : Hid ((W.alloc (.cells #[.int .i64 (es.length : Int)] 3)).drew.heap[a]? = some (.cells (faceC (faceE e.p e.x zs)) 68 (0, 0))) := Lib.hid ((heap_alloc_old W (.cells #[.int .i64 (es.length : Int)] 3) (Array.getElem?_eq_some_iff.1 HF0.out).1).trans HF0.out)
  have HC1 : Hid ((W.alloc (.cells #[.int .i64 (es.length : Int)] 3)).drew.heap[W.heap.size]? = some (.cells #[.int .i64 (es.length : Int)] 3 (0, 0))) := Lib.hid (heap_alloc_new W _)
  clear HM0 HR0 HF0 HMW HRW
  generalize (W.alloc (.cells #[.int .i64 (es.length : Int)] 3)).drew = W1 at HM1 HR1 HF1 HC1 ⊢
  generalize W.heap.size = N1 at HC1 ⊢
  obtain ⟨o1, v1, st, l, kv1, hrun, hrow, hll, hm2, hnext⟩ := wait_put HM1.out HR1.out HWW.out e HOO.out HFF.out
  have HRUN := Lib.hid hrun
  have HROW := Lib.hid hrow
  have HM2 := Lib.hid hm2
  have HNX := Lib.hid hnext
  have HLL := Lib.hid hll
  have HF2 := Lib.hid ((setBlock_other (W := W1) (o := o1) (map_ne_book HM1.out.mW HF1.out)).trans HF1.out)
  have HC2 := Lib.hid ((setBlock_other (W := W1) (o := o1) (map_ne_book HM1.out.mW HC1.out)).trans HC1.out)
  clear hrun hrow hm2 hnext hll HR1 HWW HOO
  have hHeld2 : (show World → Prop from fun W1 => W1.heap[b]? = some (.cells #[tv, .int .i64 tol, ev, .map (some m1), .map (some m2), pv] 82 (0, 0)) ∧ W1.heap[a]? = some (.cells (faceC (faceE e.p e.x zs)) 68 (0, 0))) _ := ⟨HM1.out.book, HF1.out⟩
  refine hK.out _ _ (Or.inr hHeld2) (fun _ => ?_)
  clear hK K hHeld
  try clear hb
  have hHeld := hHeld2
  clear hHeld2
  try simp only [Act.put, List.setIfInBounds_toArray, List.set_cons_zero, List.set_cons_succ]
  refine wpAnyE_ready (rs := [7]) (by kernel_rfl) (by simp) ?_
  refine AllReadyE.cons (o := ({ dst := some 224, op := Op.mapEntry 78 (Operand.tmp 219) (Operand.tmp 220), type := 0, pos := "match.go:153", after := #[{ on := 3, ground := Ground.data }, { on := 4, ground := Ground.data }, { on := 0, ground := Ground.phase }, { on := 1, ground := Ground.phase }, { on := 2, ground := Ground.phase }, { on := 3, ground := Ground.phase }, { on := 4, ground := Ground.phase }, { on := 5, ground := Ground.phase }, { on := 6, ground := Ground.phase }], guard := none } : Oper)) rfl (fun K hK => ?_) AllReadyE.nil
  rw [if_pos (by rfl)]
  refine wp_mapEntry_known 78 (.tmp 219) (.tmp 220) rfl (.map (some m2)) (keyF (faceE e.p e.x zs)) _ rfl rfl HRUN.out ?_
  have hHeld2 : (show World → Prop from fun W1 => W1.heap[b]? = some (.cells #[tv, .int .i64 tol, ev, .map (some m1), .map (some m2), pv] 82 (0, 0)) ∧ W1.heap[a]? = some (.cells (faceC (faceE e.p e.x zs)) 68 (0, 0))) _ := ⟨HM2.out.book, HF2.out⟩
  refine hK.out _ _ (Or.inr hHeld2) (fun _ => ?_)
  clear hK K hHeld
  try clear hb
  have hHeld := hHeld2
  clear hHeld2
  try simp only [Act.put, List.setIfInBounds_toArray, List.set_cons_zero, List.set_cons_succ]
  refine wpAnyE_take (i := 8) (oi := ({ dst := some 221, op := Op.extract (Operand.tmp 224) 0, type := 94, pos := "match.go:153", after := #[{ on := 7, ground := Ground.data }], guard := none } : Oper)) (v := ?_) rfl (by kernel_rfl) (by kernel_rfl) (by kernel_rfl) (by kernel_rfl) (fun _ _ _ h => h) (Or.inl ⟨by rfl, ?_⟩) hHeld ?_
  rotate_left
  · intro w' hSw; (try dsimp only at hSw); go_simp <;> with_reducible rfl
  try simp only [Act.put, List.setIfInBounds_toArray, List.set_cons_zero, List.set_cons_succ]
  refine wpAnyE_take (i := 10) (oi := ({ dst := some 226, op := Op.extract (Operand.tmp 224) 1, type := 3, pos := "match.go:153", after := #[{ on := 7, ground := Ground.data }], guard := none } : Oper)) (v := ?_) rfl (by kernel_rfl) (by kernel_rfl) (by kernel_rfl) (by kernel_rfl) (fun _ _ _ h => h) (Or.inl ⟨by rfl, ?_⟩) hHeld ?_
  rotate_left
  · intro w' hSw; (try dsimp only at hSw); go_simp <;> with_reducible rfl
  try simp only [Act.put, List.setIfInBounds_toArray, List.set_cons_zero, List.set_cons_succ]
  refine wpAnyE_ready (rs := [9]) (by kernel_rfl) (by simp) ?_
  refine AllReadyE.cons (o := ({ dst := some 225, op := Op.call { callee := Callee.builtin Builtin.append, args := #[Operand.tmp 221, Operand.tmp 223], argTypes := #[94, 94] }, type := 94, pos := "match.go:153", after := #[{ on := 8, ground := Ground.data }, { on := 6, ground := Ground.data }, { on := 7, ground := Ground.chain }], guard := none } : Oper)) rfl (fun K hK => ?_) AllReadyE.nil
  generalize setBlock W1 m2 o1 = W2 at HROW HM2 HNX HF2 HC2 ⊢
  clear HM1 HF1 HC1 HRUN
  rw [if_pos (by rfl)]
  refine wp_append_new (.tmp 221) (.tmp 223) 94 rfl 0 3 i0 (.int .i64 0) 1 8 Tryz.underlying94 hi hz0 hz1 hz2 rfl (by decide) v1 l.length (l.map natV) rfl HROW.out ⟨N1, 0, none⟩ 1 1 [natV es.length] rfl rfl (cells_one HC2.out) (by simp [natV, Value.oneCell']) (by have := HLL.out; have := hlen.out; unfold maxLen; omega) (by have := HLL.out; have := hlen.out; omega) (Nat.zero_le _) (by decide) ?_
  intro v' W3 hown hgrow hnew
  obtain ⟨o2, ws', hr3, hm3, hr4, hw4⟩ := HNX.out W3 v' hgrow hown hnew
  have HR3 := Lib.hid hr3
  have HEND := Lib.hid (HP.out _ ws' hm3 hr4 hw4)
  have hb3 : W3.heap[b]? = _ := row_kept_other HM2.out.book HROW.out (by decide) hgrow
  have hf3 : W3.heap[a]? = _ := row_kept_other HF2.out HROW.out (by decide) hgrow
  clear hown hgrow hnew hr3 hm3 hr4 hw4 HNX HP
  have hHeld2 : (show World → Prop from fun W1 => W1.heap[b]? = some (.cells #[tv, .int .i64 tol, ev, .map (some m1), .map (some m2), pv] 82 (0, 0)) ∧ W1.heap[a]? = some (.cells (faceC (faceE e.p e.x zs)) 68 (0, 0))) _ := ⟨hb3, hf3⟩
  refine hK.out _ _ (Or.inr hHeld2) (fun _ => ?_)
  clear hK K hHeld
  try clear hb
  have hHeld := hHeld2
  clear hHeld2
  try simp only [Act.put, List.setIfInBounds_toArray, List.set_cons_zero, List.set_cons_succ]
  refine wpAnyE_ready (rs := [11]) (by kernel_rfl) (by simp) ?_
  refine AllReadyE.cons (o := ({ dst := none, op := Op.entryStore 78 (Operand.tmp 219) (Operand.tmp 226) (Operand.tmp 225), type := 0, pos := "match.go:153", after := #[{ on := 3, ground := Ground.data }, { on := 10, ground := Ground.data }, { on := 9, ground := Ground.data }, { on := 9, ground := Ground.chain }, { on := 0, ground := Ground.phase }, { on := 1, ground := Ground.phase }, { on := 2, ground := Ground.phase }, { on := 3, ground := Ground.phase }, { on := 4, ground := Ground.phase }, { on := 5, ground := Ground.phase }, { on := 6, ground := Ground.phase }, { on := 7, ground := Ground.phase }, { on := 8, ground := Ground.phase }, { on := 9, ground := Ground.phase }, { on := 10, ground := Ground.phase }], guard := none } : Oper)) rfl (fun K hK => ?_) AllReadyE.nil
  clear hb3 hf3
  rw [if_pos (by rfl)]
  refine wp_entryStore_known 78 (.tmp 219) (.tmp 226) (.tmp 225) rfl (.map (some m2)) (.int .i64 st) v' rfl rfl rfl HR3.out ?_
  refine hK.out _ _ (Or.inl ⟨11, by simp, by kernel_rfl⟩) (fun _ => ?_)
  clear hK K
  try clear hHeld
  try clear hb
  try simp only [Act.put, List.setIfInBounds_toArray, List.set_cons_zero, List.set_cons_succ]
  refine wpAnyE_done (by kernel_rfl) ?_ _
  go_wp2
  go_ret3
  exact HEND.out
end Go.Proofs.YtphabkaiheplpaaGreatDoor
