/- Joined texts of this proof: BkCa. -/
import Derived.Outline
import Derived.Test.YtphabkaiheplpaaGreatDoorRests28
/- (*match.Book).Cancel, its piece where an open side is taken out of those who wait. -/
set_option linter.unusedVariables false
set_option linter.unusedSimpArgs false
set_option maxRecDepth 100000
namespace Go.Proofs.YtphabkaiheplpaaGreatDoor
open Go.RowKit Go.Shelf Go.Maps
open Go.ChangeMaps (setBlock)

noncomputable def cancelR (n : Nat) : Code := ((Tryz.f13.body.bind (fromR n)).getD .skip)
theorem del_erase {l : List Nat} (hn : l.Nodup) {i k : Nat} (hi : l[i]? = some k) : l.filter (· != k) = l.eraseIdx i := filter_ne_erase hn hi
set_option maxHeartbeats 8000000 in
set_option maxRecDepth 1000000 in
theorem cancel10 {F : Nat → Prop} {w W : World} {b c nb : Nat} {tv ev pv : Value} {m1 m2 : Nat} {ws : List Wq} {zs : List ByteArray} {tol : Int} {nm : List (Value × Value)} {es : List Ent} {ex : List Ent} {ps : List Pr} {f : Fc} {q : Wq} {i i0 j : Nat} (u1 u2 u3 u4 u5 u6 u7 u9 u10 u12 u13 u14 u15 u16 u17 u18 u19 u20 u21 u22 u23 u24 u25 u26 u27 u28 u29 u30 u31 u32 u33 u34 u35 u36 u37 u38 u39 u40 u41 u42 u43 u44 u45 u46 u47 u48 u49 u50 u51 u52 u53 u54 u55 u56 u57 u58 u59 u60 u61 u62 u63 u64 u65 u66 u67 u68 u69 u70 u71 u72 u73 u74 u75 u76 u77 u78 u79 u80 u81 u82 u83 u84 u85 u86 u87 u88 u89 u90 u91 u92 u93 u94 u95 u96 u97 u98 u99 u100 u101 u102 u103 u104 u105 u106 u107 u108 u109 u110 u111 u112 u113 u114 u115 u116 u117 u118 u119 u120 u121 u122 u123 u124 u125 u126 u127 u128 u129 u130 : Value) {Q : Exit → Act → World → Prop}
    (HM : BkM F w W b tv ev pv m1 m2 (ws.map kwF) #[tv, .int .i64 tol, ev, .map (some m1), .map (some m2), pv] zs nm ex ps) (HR : WsR F w.heap.size W ws) (HW : WsOk zs es ws) (hf : f.wf)
    (hface : W.heap[c]? = some (.cells (faceC f) 68 (0, 0))) (hbox : W.heap[nb]? = some (.cells #[natV i] 3 (0, 0))) (hnb : q.2.1.ownBlock ≠ some nb) (hq : ws[j]? = some q) (hs : sameFace q.1 f = true) (hi : q.2.2[i0]? = some i) (hnd : q.2.2.Nodup)
    (hQp : ∀ c (a a' : Act) w, Q (.panic c) a w → a'.defers = a.defers → Q (.panic c) a' w)
    (post : ∀ (T : Array Value) (W' : World) (v' : Value), T.getD 6 undef = .bool true → T.getD 7 undef = .nilIface → BkM F w W' b tv ev pv m1 m2 ((ws.set j (q.1, v', q.2.2.eraseIdx i0)).map kwF) #[tv, .int .i64 tol, ev, .map (some m1), .map (some m2), pv] zs nm ex ps → WsR F w.heap.size W' (ws.set j (q.1, v', q.2.2.eraseIdx i0)) → Q .ret ⟨T, []⟩ W') :
    Code.wp Tryz.prog (cancelR 10) Q ⟨#[.pointer (some ⟨b, 0, none⟩), u1, u2, u3, u4, u5, u6, u7, .pointer (some ⟨nb, 0, none⟩), u9, u10, .pointer (some ⟨c, 0, none⟩), u12, u13, u14, u15, u16, u17, u18, u19, u20, u21, u22, u23, u24, u25, u26, u27, u28, u29, u30, u31, u32, u33, u34, u35, u36, u37, u38, u39, u40, u41, u42, u43, u44, u45, u46, u47, u48, u49, u50, u51, u52, u53, u54, u55, u56, u57, u58, u59, u60, u61, u62, u63, u64, u65, u66, u67, u68, u69, u70, u71, u72, u73, u74, u75, u76, u77, u78, u79, u80, u81, u82, u83, u84, u85, u86, u87, u88, u89, u90, u91, u92, u93, u94, u95, u96, u97, u98, u99, u100, u101, u102, u103, u104, u105, u106, u107, u108, u109, u110, u111, u112, u113, u114, u115, u116, u117, u118, u119, u120, u121, u122, u123, u124, u125, u126, u127, u128, u129, u130], []⟩ W := by
  have HM0 := Lib.hid HM.drew
  have HR0 := Lib.hid HR.drew
  have HF0 : Hid (W.drew.heap[c]? = some (.cells (faceC f) 68 (0, 0))) := Lib.hid hface
  have HB0 : Hid (W.drew.heap[nb]? = some (.cells #[natV i] 3 (0, 0))) := Lib.hid hbox
  have HC0 : Hid (W.drew.cell? ⟨nb, 0, none⟩ = some (natV i)) := Lib.hid ((cell_of_row _ nb 0 _ _ _ HB0.out).trans rfl)
  have HNB := Lib.hid hnb
  have HWW := Lib.hid HW
  have HFF := Lib.hid hf
  have HQ := Lib.hid hq
  have HS := Lib.hid hs
  have HI := Lib.hid hi
  have HND := Lib.hid hnd
  have HPO := Lib.hid post
  have HQP := Lib.hid hQp
  have LF := Lib.hid (fun W1 h => load_face f W1 c 68 h)
  clear HM HR HW hf hface hbox hnb hq hs hi hnd post hQp
  conv => arg 2; whnf
  dsimp only
  go_upto_region 10 with fail
  refine wp_region_heldE (S := fun W1 => W1.heap[b]? = some (.cells #[tv, .int .i64 tol, ev, .map (some m1), .map (some m2), pv] 82 (0, 0)) ∧ W1.heap[c]? = some (.cells (faceC f) 68 (0, 0)) ∧ MapIs W1 m2 (ws.map kwF)) (ds := [13]) (by kernel_rfl) (⟨HM0.out.book, HF0.out, HM0.out.mW⟩) (fun hHeld => ?_)
  refine wpAnyE_take (i := 0) (oi := ({ dst := some 65, op := Op.move (Operand.tmp 0), type := 33, pos := "match.go:170", after := #[], guard := none } : Oper)) (v := ?_) rfl (by kernel_rfl) (by kernel_rfl) (by kernel_rfl) (by kernel_rfl) (fun _ _ _ h => HQP.out _ _ _ _ h rfl) (Or.inl ⟨by rfl, ?_⟩) hHeld ?_
  rotate_left
  · intro w' hSw; (try dsimp only at hSw); go_simp <;> with_reducible rfl
  try simp only [Act.put, List.setIfInBounds_toArray, List.set_cons_zero, List.set_cons_succ]
  refine wpAnyE_take (i := 1) (oi := ({ dst := some 66, op := Op.nilCheck (Operand.tmp 65), type := 0, pos := "match.go:170", after := #[{ on := 0, ground := Ground.data }], guard := none } : Oper)) (v := ?_) rfl (by kernel_rfl) (by kernel_rfl) (by kernel_rfl) (by kernel_rfl) (fun _ _ _ h => HQP.out _ _ _ _ h rfl) (Or.inl ⟨by rfl, ?_⟩) hHeld ?_
  rotate_left
  · intro w' hSw; (try dsimp only at hSw); go_simp <;> with_reducible rfl
  try simp only [Act.put, List.setIfInBounds_toArray, List.set_cons_zero, List.set_cons_succ]
  refine wpAnyE_take (i := 2) (oi := ({ dst := some 67, op := Op.fieldAddr 82 (Operand.tmp 66) 4, type := 0, pos := "match.go:170", after := #[{ on := 1, ground := Ground.data }], guard := none } : Oper)) (v := ?_) rfl (by kernel_rfl) (by kernel_rfl) (by kernel_rfl) (by kernel_rfl) (fun _ _ _ h => HQP.out _ _ _ _ h rfl) (Or.inl ⟨by rfl, ?_⟩) hHeld ?_
  rotate_left
  · intro w' hSw; (try dsimp only at hSw); go_simp <;> with_reducible rfl
  try simp only [Act.put, List.setIfInBounds_toArray, List.set_cons_zero, List.set_cons_succ]
  refine wpAnyE_take (i := 3) (oi := ({ dst := some 68, op := Op.load 78 (Operand.tmp 67), type := 78, pos := "match.go:170", after := #[{ on := 2, ground := Ground.data }], guard := none } : Oper)) (v := ?_) rfl (by kernel_rfl) (by kernel_rfl) (by kernel_rfl) (by kernel_rfl) (fun _ _ _ h => HQP.out _ _ _ _ h rfl) (Or.inl ⟨by rfl, ?_⟩) hHeld ?_
  rotate_left
  · intro w' hSw; (try dsimp only at hSw); have hcf := cell_of_row w' b 4 _ _ _ hSw.1; go_simp <;> with_reducible rfl
  try simp only [Act.put, List.setIfInBounds_toArray, List.set_cons_zero, List.set_cons_succ]
  refine wpAnyE_take (i := 4) (oi := ({ dst := some 69, op := Op.load 68 (Operand.tmp 11), type := 68, pos := "match.go:170", after := #[], guard := none } : Oper)) (v := .agg (faceC f)) rfl (by kernel_rfl) (by kernel_rfl) (by kernel_rfl) (by kernel_rfl) (fun _ _ _ h => HQP.out _ _ _ _ h rfl) (yieldsIf_load_known (by rfl) 68 (Operand.tmp 11) rfl ⟨c, 0, none⟩ (.agg (faceC f)) rfl (fun w' h => LF.out w' h.2.1)) hHeld ?_
  try simp only [Act.put, List.setIfInBounds_toArray, List.set_cons_zero, List.set_cons_succ]
  refine wpAnyE_take (i := 5) (oi := ({ dst := some 70, op := Op.move (Operand.tmp 0), type := 33, pos := "match.go:170", after := #[], guard := none } : Oper)) (v := ?_) rfl (by kernel_rfl) (by kernel_rfl) (by kernel_rfl) (by kernel_rfl) (fun _ _ _ h => HQP.out _ _ _ _ h rfl) (Or.inl ⟨by rfl, ?_⟩) hHeld ?_
  rotate_left
  · intro w' hSw; (try dsimp only at hSw); go_simp <;> with_reducible rfl
  try simp only [Act.put, List.setIfInBounds_toArray, List.set_cons_zero, List.set_cons_succ]
  refine wpAnyE_take (i := 6) (oi := ({ dst := some 71, op := Op.nilCheck (Operand.tmp 70), type := 0, pos := "match.go:170", after := #[{ on := 5, ground := Ground.data }], guard := none } : Oper)) (v := ?_) rfl (by kernel_rfl) (by kernel_rfl) (by kernel_rfl) (by kernel_rfl) (fun _ _ _ h => HQP.out _ _ _ _ h rfl) (Or.inl ⟨by rfl, ?_⟩) hHeld ?_
  rotate_left
  · intro w' hSw; (try dsimp only at hSw); go_simp <;> with_reducible rfl
  try simp only [Act.put, List.setIfInBounds_toArray, List.set_cons_zero, List.set_cons_succ]
  refine wpAnyE_take (i := 7) (oi := ({ dst := some 72, op := Op.fieldAddr 82 (Operand.tmp 71) 4, type := 0, pos := "match.go:170", after := #[{ on := 6, ground := Ground.data }], guard := none } : Oper)) (v := ?_) rfl (by kernel_rfl) (by kernel_rfl) (by kernel_rfl) (by kernel_rfl) (fun _ _ _ h => HQP.out _ _ _ _ h rfl) (Or.inl ⟨by rfl, ?_⟩) hHeld ?_
  rotate_left
  · intro w' hSw; (try dsimp only at hSw); go_simp <;> with_reducible rfl
  try simp only [Act.put, List.setIfInBounds_toArray, List.set_cons_zero, List.set_cons_succ]
  refine wpAnyE_take (i := 8) (oi := ({ dst := some 73, op := Op.load 78 (Operand.tmp 72), type := 78, pos := "match.go:170", after := #[{ on := 7, ground := Ground.data }], guard := none } : Oper)) (v := ?_) rfl (by kernel_rfl) (by kernel_rfl) (by kernel_rfl) (by kernel_rfl) (fun _ _ _ h => HQP.out _ _ _ _ h rfl) (Or.inl ⟨by rfl, ?_⟩) hHeld ?_
  rotate_left
  · intro w' hSw; (try dsimp only at hSw); have hcf := cell_of_row w' b 4 _ _ _ hSw.1; go_simp <;> with_reducible rfl
  try simp only [Act.put, List.setIfInBounds_toArray, List.set_cons_zero, List.set_cons_succ]
  refine wpAnyE_take (i := 9) (oi := ({ dst := some 74, op := Op.load 68 (Operand.tmp 11), type := 68, pos := "match.go:170", after := #[], guard := none } : Oper)) (v := .agg (faceC f)) rfl (by kernel_rfl) (by kernel_rfl) (by kernel_rfl) (by kernel_rfl) (fun _ _ _ h => HQP.out _ _ _ _ h rfl) (yieldsIf_load_known (by rfl) 68 (Operand.tmp 11) rfl ⟨c, 0, none⟩ (.agg (faceC f)) rfl (fun w' h => LF.out w' h.2.1)) hHeld ?_
  try simp only [Act.put, List.setIfInBounds_toArray, List.set_cons_zero, List.set_cons_succ]
  refine wpAnyE_take (i := 10) (oi := ({ dst := some 75, op := Op.lookup 78 (Operand.tmp 73) (Operand.tmp 74) false, type := 94, pos := "match.go:170", after := #[{ on := 8, ground := Ground.data }, { on := 9, ground := Ground.data }], guard := none } : Oper)) (v := q.2.1) rfl (by kernel_rfl) (by kernel_rfl) (by kernel_rfl) (by kernel_rfl) (fun _ _ _ h => HQP.out _ _ _ _ h rfl) (yields_lookup (by rfl) 78 (.tmp 73) (.tmp 74) false rfl (.map (some m2)) (keyF f) q.2.1 rfl rfl (fun w' h => wait_get h.2.2 HWW.out HFF.out HQ.out HS.out)) hHeld ?_
  try simp only [Act.put, List.setIfInBounds_toArray, List.set_cons_zero, List.set_cons_succ]
  refine wpAnyE_take (i := 11) (oi := ({ dst := some 76, op := Op.makeFunc (Fn.func 35) #[] #[Operand.tmp 8], type := 100, pos := "match.go:170", after := #[], guard := none } : Oper)) (v := ?_) rfl (by kernel_rfl) (by kernel_rfl) (by kernel_rfl) (by kernel_rfl) (fun _ _ _ h => HQP.out _ _ _ _ h rfl) (Or.inl ⟨by rfl, ?_⟩) hHeld ?_
  rotate_left
  · intro w' hSw; (try dsimp only at hSw); go_simp <;> with_reducible rfl
  try simp only [Act.put, List.setIfInBounds_toArray, List.set_cons_zero, List.set_cons_succ]
  refine wpAnyE_ready (rs := [12]) (by kernel_rfl) (by simp) ?_
  refine AllReadyE.cons (o := ({ dst := some 77, op := Op.call { callee := Callee.value (Operand.func 34), args := #[Operand.tmp 75, Operand.tmp 76], argTypes := #[94, 100] }, type := 94, pos := "match.go:170", after := #[{ on := 10, ground := Ground.data }, { on := 11, ground := Ground.data }], guard := none } : Oper)) rfl (fun K hK => ?_) AllReadyE.nil
  go_simp
  go_at_call 34
  (with_reducible refine (delfunc_row (n := i) (B := nb) (HR0.out.rW q (List.mem_of_getElem? HQ.out)) (by have := (List.getElem?_eq_some_iff.1 HI.out).1; omega) (Array.getElem?_eq_some_iff.1 HB0.out).1 HC0.out HNB.out).mono ?_)
  rintro e W2 ⟨v', rfl, hv, hg, hown⟩
  rw [del_erase HND.out HI.out] at hown
  obtain ⟨hm2, o, hru, hm3, hr3⟩ := wait_del HM0.out HR0.out HWW.out HFF.out HQ.out HS.out hg hv hown
  have HB2 := Lib.hid hm2
  have HRU := Lib.hid hru
  have HM3 := Lib.hid hm3
  have HR3 := Lib.hid hr3
  have HF2 := Lib.hid (row_kept_other HF0.out (HR0.out.rW q (List.mem_of_getElem? HQ.out)) (by decide) hg)
  clear hv hg hown hm2 hru hm3 hr3 HM0 HR0 HF0 HB0
  have hHeld2 : (show World → Prop from fun W1 => W1.heap[b]? = some (.cells #[tv, .int .i64 tol, ev, .map (some m1), .map (some m2), pv] 82 (0, 0)) ∧ W1.heap[c]? = some (.cells (faceC f) 68 (0, 0)) ∧ MapIs W1 m2 (ws.map kwF)) _ := ⟨HB2.out.book, HF2.out, HB2.out.mW⟩
  refine hK.out _ _ (Or.inr hHeld2) (fun _ => ?_)
  clear hK K hHeld
  try clear hb
  have hHeld := hHeld2
  clear hHeld2
  try simp only [Act.put, List.setIfInBounds_toArray, List.set_cons_zero, List.set_cons_succ]
  refine wpAnyE_ready (rs := [13]) (by kernel_rfl) (by simp) ?_
  refine AllReadyE.cons (o := ({ dst := none, op := Op.mapUpdate 78 (Operand.tmp 68) (Operand.tmp 69) (Operand.tmp 77), type := 0, pos := "match.go:170", after := #[{ on := 3, ground := Ground.data }, { on := 4, ground := Ground.data }, { on := 12, ground := Ground.data }, { on := 12, ground := Ground.chain }, { on := 0, ground := Ground.phase }, { on := 1, ground := Ground.phase }, { on := 2, ground := Ground.phase }, { on := 3, ground := Ground.phase }, { on := 4, ground := Ground.phase }, { on := 5, ground := Ground.phase }, { on := 6, ground := Ground.phase }, { on := 7, ground := Ground.phase }, { on := 8, ground := Ground.phase }, { on := 9, ground := Ground.phase }, { on := 10, ground := Ground.phase }, { on := 11, ground := Ground.phase }, { on := 12, ground := Ground.phase }], guard := none } : Oper)) rfl (fun K hK => ?_) AllReadyE.nil
  rw [if_pos (by rfl)]
  refine wp_mapUpdate_known 78 (.tmp 68) (.tmp 69) (.tmp 77) rfl (.map (some m2)) (keyF f) v' rfl rfl rfl HRU.out ?_
  refine hK.out _ _ (Or.inl ⟨13, by simp, by kernel_rfl⟩) (fun _ => ?_)
  clear hK K
  try clear hHeld
  try clear hb
  try simp only [Act.put, List.setIfInBounds_toArray, List.set_cons_zero, List.set_cons_succ]
  refine wpAnyE_done (by kernel_rfl) ?_ _
  generalize setBlock W2 m2 o = W3 at HM3 HR3 ⊢
  have HEND := Lib.hid (fun T h1 h2 => HPO.out T W3 v' h1 h2 HM3.out HR3.out)
  go_wp2
  exact HEND.out _ rfl rfl
end Go.Proofs.YtphabkaiheplpaaGreatDoor
