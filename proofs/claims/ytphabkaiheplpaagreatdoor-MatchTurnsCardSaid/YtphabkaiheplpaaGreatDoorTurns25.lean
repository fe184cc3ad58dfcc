/- Joined texts of this proof: BkA27. -/
import Derived.Outline
import Derived.Test.YtphabkaiheplpaaGreatDoorTurns24
/- (*match.Book).Add, its piece where another side has been found: both become a pair. -/
set_option linter.unusedVariables false
set_option linter.unusedSimpArgs false
set_option maxRecDepth 100000
namespace Go.Proofs.YtphabkaiheplpaaGreatDoor
open Go.RowKit Go.Shelf Go.Maps
open Go.ChangeMaps (setBlock)

theorem entC_set (e : Ent) (p : Int) : (entC e).set 28 (.int .i64 p) = entC { e with pair := p } := by kernel_rfl
theorem ents_cell (es : List Ent) (k : Nat) (v : Value) (hk : k < 31) : ∀ (d : Nat) (e' : Ent), d < es.length → (entC (es.getD d ent0)).set k v = entC e' → (es.flatMap entC).set (d * 31 + k) v = (es.set d e').flatMap entC := by
  induction es with
  | nil => intro d e' h; cases h
  | cons e r ih =>
    intro d e' h he
    cases d with
    | zero =>
      have he2 : (entC e).set k v = entC e' := he
      rw [List.flatMap_cons, List.set_append_left _ _ (by rw [entC_length]; omega), Nat.zero_mul, Nat.zero_add, he2, List.set_cons_zero, List.flatMap_cons]
    | succ d =>
      rw [List.flatMap_cons, List.set_append_right _ _ (by rw [entC_length]; omega), entC_length, show (d + 1) * 31 + k - 31 = d * 31 + k by omega, ih d e' (by simpa using h) he, List.set_cons_succ, List.flatMap_cons]
theorem ents_at (es : List Ent) : ∀ (d j : Nat), d < es.length → j < 31 → (es.flatMap entC)[d * 31 + j]? = (entC (es.getD d ent0))[j]? := by
  induction es with
  | nil => intro d j h; cases h
  | cons e r ih =>
    intro d j h hj
    cases d with
    | zero =>
      rw [List.flatMap_cons, List.getElem?_append_left (by rw [entC_length]; omega), Nat.zero_mul, Nat.zero_add]
      rfl
    | succ d =>
      rw [List.flatMap_cons, List.getElem?_append_right (by rw [entC_length]; omega), entC_length, show (d + 1) * 31 + j - 31 = d * 31 + j by omega, ih d j (by simpa using h) hj]
      rfl
theorem getD_mem {es : List Ent} {d : Nat} (h : d < es.length) : es.getD d ent0 ∈ es := by
  rw [List.getD_eq_getElem?_getD, List.getElem?_eq_getElem h]
  exact List.getElem_mem h
/-- One cell of one entry. -/
theorem BkM.entCell {F : Nat → Prop} {w W : World} {b n : Nat} {tv pv : Value} {m1 m2 eg ec : Nat} {kw : List (Value × Value)} {C : Array Value} {zs : List ByteArray} {nm : List (Value × Value)} {es : List Ent} {ps : List Pr}
    (h : BkM F w W b tv (.slice (some ⟨eg, 0, none⟩) n ec) pv m1 m2 kw C zs nm es ps) (hn : es.length = n) {d k : Nat} (hd : d < es.length) (hk : k < 31) (v : Value) (e' : Ent) (he : (entC (es.getD d ent0)).set k v = entC e') (hx : e'.x = (es.getD d ent0).x) (hl : e'.lx = (es.getD d ent0).lx) :
    BkM F w (W.setCell ⟨eg, d * 31 + k, none⟩ v) b tv (.slice (some ⟨eg, 0, none⟩) n ec) pv m1 m2 kw C zs nm (es.set d e') ps ∧ W.grownBy (W.setCell ⟨eg, d * 31 + k, none⟩ v) (some eg) := by
  subst hn
  have hs := h.rE.stored (d * 31 + k) v
  rw [ents_cell es k v hk d e' hd he] at hs
  refine ⟨h.ents hs.2 _ _ ?_ h.iE ?_ ?_, hs.2⟩
  · rw [List.length_set]; exact hs.1
  · intro e hm
    rcases mem_set_of hm with rfl | hm
    · rw [hx, hl]; exact h.rL _ (getD_mem hd)
    · exact h.rL e hm
  · intro e hm a ha
    rcases mem_set_of hm with rfl | hm
    · rw [hx] at ha; exact h.iL _ (getD_mem hd) a ha
    · exact h.iL e hm a ha
theorem entCell_facts {F : Nat → Prop} {w W : World} {b n : Nat} {tv pv : Value} {m1 m2 eg ec : Nat} {kw : List (Value × Value)} {C : Array Value} {zs : List ByteArray} {nm : List (Value × Value)} {es : List Ent} {ps : List Pr}
    (h : BkM F w W b tv (.slice (some ⟨eg, 0, none⟩) n ec) pv m1 m2 kw C zs nm es ps) (hn : es.length = n) {d k : Nat} (hd : d < es.length) (hk : k < 31) : W.cell? ⟨eg, d * 31 + k, none⟩ = (entC (es.getD d ent0))[k]? ∧ W.frozen? ⟨eg, d * 31 + k, none⟩ = false := by
  subst hn
  exact ⟨by rw [h.rE.cellAt (d * 31 + k) (by omega), ents_at es d k hd hk], h.rE.frozenAt _⟩
theorem prs_snoc (ps : List Pr) (q : Pr) : ps.flatMap prC ++ prC q = (ps ++ [q]).flatMap prC := by simp
theorem own_prs {W : World} {v : Value} {ps : List Pr} {q : Pr} (h : W.ownsRow 0 97 4 v (ps.length + 1) (ps.flatMap prC ++ prC q)) : W.ownsRow 0 97 4 v (ps ++ [q]).length ((ps ++ [q]).flatMap prC) := by
  rw [← prs_snoc, List.length_append]
  exact h
theorem infoP : (Tryz.prog.info? 97).map (fun i => (i.zero, i.size, i.bytes)) = some (some (.agg #[.int .i64 0, .int .i64 0, .int .i64 0, .bool false]), 4, 32) := by kernel_rfl
/-- The entries with one more pair. -/
def paired (es : List Ent) (d r : Nat) (p : Int) : List Ent := (es.set d { es.getD d ent0 with pair := p }).set r { (es.set d { es.getD d ent0 with pair := p }).getD r ent0 with pair := p }
theorem paired_length (es : List Ent) (d r : Nat) (p : Int) : (paired es d r p).length = es.length := by simp [paired]
theorem cells_four {W : World} {g : Nat} {v0 v1 v2 v3 : Value} {T : TypeId} (h : W.heap[g]? = some (.cells #[v0, v1, v2, v3] T (0, 0))) : ∀ j u, [v0, v1, v2, v3][j]? = some u → W.cell? ((⟨g, 0, none⟩ : Addr).add j) = some u := by
  intro j u hj
  rw [Addr.add_lit, Nat.zero_add, cell_of_row W g j _ _ _ h]
  simpa using hj
theorem inF_of_new {F : Nat → Prop} {B : Nat} {W : World} {v v' : Value} (h : OrNew W v v') (hi : ∀ g, v.ownBlock = some g → inF F B g) (hB : B ≤ W.heap.size) : ∀ g, v'.ownBlock = some g → inF F B g := fun g hg => by
  rcases h with h | ⟨g', h, h2⟩
  · exact hi g (by rw [← h]; exact hg)
  · rw [hg] at h
    obtain rfl := Option.some.inj h
    exact .inr (by omega)
theorem own_addr {W : World} {base : Nat} {e : TypeId} {size n c : Nat} {A : Option Addr} {xs : List Value} (h : W.ownsRow base e size (.slice A n c) n xs) (hn : 0 < n) : ∃ g, A = some ⟨g, 0, none⟩ := by
  rcases h.2 with ⟨_, h0⟩ | ⟨g, cap, cur, he, _⟩
  · omega
  · injection he with h1 _ _
    exact ⟨g, h1⟩
noncomputable def tail27 : Code := ((Tryz.f10.body.bind (fromR 27)).getD .skip)
set_option maxHeartbeats 8000000 in
set_option maxRecDepth 1000000 in
theorem add_tail27 {F : Nat → Prop} {w W : World} {b c : Nat} {tv ev pv : Value} {m1 m2 : Nat} {ws : List Wq} {zs : List ByteArray} {tol : Int} {nm : List (Value × Value)} {es : List Ent} {ex : List Ent} {ps : List Pr} {f : Fc} {q : Wq} {i j d r n : Nat} {am : Int} (u1 u2 u3 u4 u5 u6 u7 u8 u9 u10 u12 u15 u19 u20 u21 u22 u23 u24 u25 u26 u27 u28 u29 u30 u31 u32 u33 u34 u35 u36 u37 u38 u39 u40 u41 u42 u43 u44 u45 u46 u47 u48 u49 u50 u51 u52 u53 u54 u55 u56 u57 u58 u59 u60 u61 u62 u63 u64 u65 u66 u67 u68 u69 u70 u71 u72 u73 u74 u75 u76 u77 u78 u79 u80 u81 u82 u83 u84 u85 u86 u87 u88 u89 u90 u91 u92 u93 u94 u95 u96 u97 u98 u99 u100 u101 u102 u103 u104 u105 u106 u107 u108 u109 u110 u111 u112 u113 u114 u115 u116 u117 u118 u119 u120 u121 u122 u123 u124 u125 u126 u127 u128 u129 u130 u131 u132 u133 u134 u135 u136 u137 u138 u139 u140 u141 u142 u143 u144 u145 u146 u147 u148 u149 u150 u151 u152 u153 u154 u155 u156 u157 u158 u159 u160 u161 u162 u163 u164 u165 u166 u167 u168 u169 u170 u171 u172 u173 u174 u175 u176 u177 u178 u179 u180 u181 u182 u183 u184 u185 u186 u187 u188 u189 u190 u191 u192 u193 u194 u195 u196 u197 u198 u199 u200 u201 u202 u203 u204 u205 u206 u207 u208 u209 u210 u211 u212 u213 u214 u215 u216 u217 u218 u219 u220 u221 u222 u223 u224 u225 u226 u227 : Value) {Q : Exit → Act → World → Prop}
    (HM : BkM F w W b tv ev pv m1 m2 (ws.map kwF) #[tv, .int .i64 tol, ev, .map (some m1), .map (some m2), pv] zs nm ex ps) (HR : WsR F w.heap.size W ws) (HW : WsOk zs es ws) (hf : f.wf)
    (hface : W.heap[c]? = some (.cells (faceC f) 68 (0, 0))) (hq : ws[j]? = some q) (hs : sameFace q.1 f = true) (hi : i < q.2.2.length) (hil : q.2.2.length ≤ 1000000000000000) (hd : d < ex.length) (hr : r < ex.length) (hel : ex.length ≤ 1000000000000) (hpl : (ps.length + 1) * 32 ≤ 140737488355328)
    (hQp : ∀ c (a a' : Act) w, Q (.panic c) a w → a'.defers = a.defers → Q (.panic c) a' w)
    (post : ∀ (T : Array Value) (W' : World) (ev' pv' v' : Value), T.getD 4 undef = .int .i64 (n : Int) → T.getD 5 undef = .int .i64 (ps.length : Int) → T.getD 6 undef = .nilIface →
      BkM F w W' b tv ev' pv' m1 m2 ((ws.set j (q.1, v', q.2.2.eraseIdx i)).map kwF) #[tv, .int .i64 tol, ev', .map (some m1), .map (some m2), pv'] zs nm (paired ex d r ps.length) (ps ++ [Pr.mk d r am false]) → WsR F w.heap.size W' (ws.set j (q.1, v', q.2.2.eraseIdx i)) → Q .ret ⟨T, []⟩ W') :
    Code.wp Tryz.prog tail27 Q ⟨#[.pointer (some ⟨b, 0, none⟩), u1, u2, u3, u4, u5, u6, u7, u8, u9, u10, .int .i64 (n : Int), u12, .pointer (some ⟨c, 0, none⟩), .int .i64 (i : Int), u15, .int .i64 (d : Int), .int .i64 (r : Int), .int .i64 am, u19, u20, u21, u22, u23, u24, u25, u26, u27, u28, u29, u30, u31, u32, u33, u34, u35, u36, u37, u38, u39, u40, u41, u42, u43, u44, u45, u46, u47, u48, u49, u50, u51, u52, u53, u54, u55, u56, u57, u58, u59, u60, u61, u62, u63, u64, u65, u66, u67, u68, u69, u70, u71, u72, u73, u74, u75, u76, u77, u78, u79, u80, u81, u82, u83, u84, u85, u86, u87, u88, u89, u90, u91, u92, u93, u94, u95, u96, u97, u98, u99, u100, u101, u102, u103, u104, u105, u106, u107, u108, u109, u110, u111, u112, u113, u114, u115, u116, u117, u118, u119, u120, u121, u122, u123, u124, u125, u126, u127, u128, u129, u130, u131, u132, u133, u134, u135, u136, u137, u138, u139, u140, u141, u142, u143, u144, u145, u146, u147, u148, u149, u150, u151, u152, u153, u154, u155, u156, u157, u158, u159, u160, u161, u162, u163, u164, u165, u166, u167, u168, u169, u170, u171, u172, u173, u174, u175, u176, u177, u178, u179, u180, u181, u182, u183, u184, u185, u186, u187, u188, u189, u190, u191, u192, u193, u194, u195, u196, u197, u198, u199, u200, u201, u202, u203, u204, u205, u206, u207, u208, u209, u210, u211, u212, u213, u214, u215, u216, u217, u218, u219, u220, u221, u222, u223, u224, u225, u226, u227], []⟩ W := by
  obtain ⟨i0, hi0, hz0, hz1, hz2⟩ := Sp.info_of infoP
  obtain ⟨EA, ec, hev⟩ := ow_slice HM.rE
  obtain ⟨PA, pc, hpv⟩ := ow_slice HM.rP
  subst hev hpv
  obtain ⟨eg, rfl⟩ := own_addr HM.rE (by omega)
  have HMW := Lib.hid HM
  have HRW := Lib.hid HR
  have HM0 := Lib.hid HM.drew
  have HR0 := Lib.hid HR.drew
  have HF0 : Hid (W.drew.heap[c]? = some (.cells (faceC f) 68 (0, 0))) := Lib.hid hface
  have HP := Lib.hid post
  have HQP := Lib.hid hQp
  have HWW := Lib.hid HW
  have HFF := Lib.hid hf
  have HQ := Lib.hid hq
  have HS := Lib.hid hs
  have LF := Lib.hid (fun W1 h => load_face f W1 c 68 h)
  have hi63 : (i : Int) + 1 ≤ 9223372036854775807 := by omega
  have HI := Lib.hid hi
  have hwr : IntKind.i64.wrap ((i : Int) + 1) = (i : Int) + 1 := by rw [IntKind.wrap_i64]; omega
  have HEL := Lib.hid hel
  have HPL := Lib.hid hpl
  have HD := Lib.hid hd
  have HRR := Lib.hid hr
  clear HM HR hface hQp post HW hf hq hs hi hil hel hpl hd hr
  conv => arg 2; whnf
  dsimp only
  go_upto_region 27 with fail
  refine wp_region_heldE (S := fun W1 => W1.heap[b]? = some (.cells #[tv, .int .i64 tol, .slice (some ⟨eg, 0, none⟩) ex.length ec, .map (some m1), .map (some m2), .slice PA ps.length pc] 82 (0, 0)) ∧ W1.heap[c]? = some (.cells (faceC f) 68 (0, 0)) ∧ MapIs W1 m2 (ws.map kwF)) (ds := [15]) (by kernel_rfl) (⟨HM0.out.book, HF0.out, HM0.out.mW⟩) (fun hHeld => ?_)
  refine wpAnyE_take (i := 0) (oi := ({ dst := some 163, op := Op.move (Operand.tmp 0), type := 33, pos := "match.go:147", after := #[], guard := none } : Oper)) (v := ?_) rfl (by kernel_rfl) (by kernel_rfl) (by kernel_rfl) (by kernel_rfl) (fun _ _ _ h => HQP.out _ _ _ _ h rfl) (Or.inl ⟨by rfl, ?_⟩) hHeld ?_
  rotate_left
  · intro w' hSw; (try dsimp only at hSw); go_simp <;> with_reducible rfl
  try simp only [Act.put, List.setIfInBounds_toArray, List.set_cons_zero, List.set_cons_succ]
  refine wpAnyE_take (i := 1) (oi := ({ dst := some 164, op := Op.nilCheck (Operand.tmp 163), type := 0, pos := "match.go:147", after := #[{ on := 0, ground := Ground.data }], guard := none } : Oper)) (v := ?_) rfl (by kernel_rfl) (by kernel_rfl) (by kernel_rfl) (by kernel_rfl) (fun _ _ _ h => HQP.out _ _ _ _ h rfl) (Or.inl ⟨by rfl, ?_⟩) hHeld ?_
  rotate_left
  · intro w' hSw; (try dsimp only at hSw); go_simp <;> with_reducible rfl
  try simp only [Act.put, List.setIfInBounds_toArray, List.set_cons_zero, List.set_cons_succ]
  refine wpAnyE_take (i := 2) (oi := ({ dst := some 165, op := Op.fieldAddr 82 (Operand.tmp 164) 4, type := 0, pos := "match.go:147", after := #[{ on := 1, ground := Ground.data }], guard := none } : Oper)) (v := ?_) rfl (by kernel_rfl) (by kernel_rfl) (by kernel_rfl) (by kernel_rfl) (fun _ _ _ h => HQP.out _ _ _ _ h rfl) (Or.inl ⟨by rfl, ?_⟩) hHeld ?_
  rotate_left
  · intro w' hSw; (try dsimp only at hSw); go_simp <;> with_reducible rfl
  try simp only [Act.put, List.setIfInBounds_toArray, List.set_cons_zero, List.set_cons_succ]
  refine wpAnyE_take (i := 3) (oi := ({ dst := some 166, op := Op.load 78 (Operand.tmp 165), type := 78, pos := "match.go:147", after := #[{ on := 2, ground := Ground.data }], guard := none } : Oper)) (v := ?_) rfl (by kernel_rfl) (by kernel_rfl) (by kernel_rfl) (by kernel_rfl) (fun _ _ _ h => HQP.out _ _ _ _ h rfl) (Or.inl ⟨by rfl, ?_⟩) hHeld ?_
  rotate_left
  · intro w' hSw; (try dsimp only at hSw); have hcf := cell_of_row w' b 4 _ _ _ hSw.1; go_simp <;> with_reducible rfl
  try simp only [Act.put, List.setIfInBounds_toArray, List.set_cons_zero, List.set_cons_succ]
  refine wpAnyE_take (i := 4) (oi := ({ dst := some 167, op := Op.load 68 (Operand.tmp 13), type := 68, pos := "match.go:147", after := #[], guard := none } : Oper)) (v := .agg (faceC f)) rfl (by kernel_rfl) (by kernel_rfl) (by kernel_rfl) (by kernel_rfl) (fun _ _ _ h => HQP.out _ _ _ _ h rfl) (yieldsIf_load_known (by rfl) 68 (Operand.tmp 13) rfl ⟨c, 0, none⟩ (.agg (faceC f)) rfl (fun w' h => LF.out w' h.2.1)) hHeld ?_
  try simp only [Act.put, List.setIfInBounds_toArray, List.set_cons_zero, List.set_cons_succ]
  refine wpAnyE_take (i := 5) (oi := ({ dst := some 168, op := Op.move (Operand.tmp 0), type := 33, pos := "match.go:147", after := #[], guard := none } : Oper)) (v := ?_) rfl (by kernel_rfl) (by kernel_rfl) (by kernel_rfl) (by kernel_rfl) (fun _ _ _ h => HQP.out _ _ _ _ h rfl) (Or.inl ⟨by rfl, ?_⟩) hHeld ?_
  rotate_left
  · intro w' hSw; (try dsimp only at hSw); go_simp <;> with_reducible rfl
  try simp only [Act.put, List.setIfInBounds_toArray, List.set_cons_zero, List.set_cons_succ]
  refine wpAnyE_take (i := 6) (oi := ({ dst := some 169, op := Op.nilCheck (Operand.tmp 168), type := 0, pos := "match.go:147", after := #[{ on := 5, ground := Ground.data }], guard := none } : Oper)) (v := ?_) rfl (by kernel_rfl) (by kernel_rfl) (by kernel_rfl) (by kernel_rfl) (fun _ _ _ h => HQP.out _ _ _ _ h rfl) (Or.inl ⟨by rfl, ?_⟩) hHeld ?_
  rotate_left
  · intro w' hSw; (try dsimp only at hSw); go_simp <;> with_reducible rfl
  try simp only [Act.put, List.setIfInBounds_toArray, List.set_cons_zero, List.set_cons_succ]
  refine wpAnyE_take (i := 7) (oi := ({ dst := some 170, op := Op.fieldAddr 82 (Operand.tmp 169) 4, type := 0, pos := "match.go:147", after := #[{ on := 6, ground := Ground.data }], guard := none } : Oper)) (v := ?_) rfl (by kernel_rfl) (by kernel_rfl) (by kernel_rfl) (by kernel_rfl) (fun _ _ _ h => HQP.out _ _ _ _ h rfl) (Or.inl ⟨by rfl, ?_⟩) hHeld ?_
  rotate_left
  · intro w' hSw; (try dsimp only at hSw); go_simp <;> with_reducible rfl
  try simp only [Act.put, List.setIfInBounds_toArray, List.set_cons_zero, List.set_cons_succ]
  refine wpAnyE_take (i := 8) (oi := ({ dst := some 171, op := Op.load 78 (Operand.tmp 170), type := 78, pos := "match.go:147", after := #[{ on := 7, ground := Ground.data }], guard := none } : Oper)) (v := ?_) rfl (by kernel_rfl) (by kernel_rfl) (by kernel_rfl) (by kernel_rfl) (fun _ _ _ h => HQP.out _ _ _ _ h rfl) (Or.inl ⟨by rfl, ?_⟩) hHeld ?_
  rotate_left
  · intro w' hSw; (try dsimp only at hSw); have hcf := cell_of_row w' b 4 _ _ _ hSw.1; go_simp <;> with_reducible rfl
  try simp only [Act.put, List.setIfInBounds_toArray, List.set_cons_zero, List.set_cons_succ]
  refine wpAnyE_take (i := 9) (oi := ({ dst := some 172, op := Op.load 68 (Operand.tmp 13), type := 68, pos := "match.go:147", after := #[], guard := none } : Oper)) (v := .agg (faceC f)) rfl (by kernel_rfl) (by kernel_rfl) (by kernel_rfl) (by kernel_rfl) (fun _ _ _ h => HQP.out _ _ _ _ h rfl) (yieldsIf_load_known (by rfl) 68 (Operand.tmp 13) rfl ⟨c, 0, none⟩ (.agg (faceC f)) rfl (fun w' h => LF.out w' h.2.1)) hHeld ?_
  try simp only [Act.put, List.setIfInBounds_toArray, List.set_cons_zero, List.set_cons_succ]
  refine wpAnyE_take (i := 10) (oi := ({ dst := some 173, op := Op.lookup 78 (Operand.tmp 171) (Operand.tmp 172) false, type := 94, pos := "match.go:147", after := #[{ on := 8, ground := Ground.data }, { on := 9, ground := Ground.data }], guard := none } : Oper)) (v := q.2.1) rfl (by kernel_rfl) (by kernel_rfl) (by kernel_rfl) (by kernel_rfl) (fun _ _ _ h => HQP.out _ _ _ _ h rfl) (yields_lookup (by rfl) 78 (.tmp 171) (.tmp 172) false rfl (.map (some m2)) (keyF f) q.2.1 rfl rfl (fun w' h => wait_get h.2.2 HWW.out HFF.out HQ.out HS.out)) hHeld ?_
  try simp only [Act.put, List.setIfInBounds_toArray, List.set_cons_zero, List.set_cons_succ]
  refine wpAnyE_take (i := 11) (oi := ({ dst := some 174, op := Op.move (Operand.tmp 14), type := 3, pos := "match.go:147", after := #[], guard := none } : Oper)) (v := ?_) rfl (by kernel_rfl) (by kernel_rfl) (by kernel_rfl) (by kernel_rfl) (fun _ _ _ h => HQP.out _ _ _ _ h rfl) (Or.inl ⟨by rfl, ?_⟩) hHeld ?_
  rotate_left
  · intro w' hSw; (try dsimp only at hSw); go_simp <;> with_reducible rfl
  try simp only [Act.put, List.setIfInBounds_toArray, List.set_cons_zero, List.set_cons_succ]
  refine wpAnyE_take (i := 12) (oi := ({ dst := some 175, op := Op.move (Operand.tmp 14), type := 3, pos := "match.go:147", after := #[], guard := none } : Oper)) (v := ?_) rfl (by kernel_rfl) (by kernel_rfl) (by kernel_rfl) (by kernel_rfl) (fun _ _ _ h => HQP.out _ _ _ _ h rfl) (Or.inl ⟨by rfl, ?_⟩) hHeld ?_
  rotate_left
  · intro w' hSw; (try dsimp only at hSw); go_simp <;> with_reducible rfl
  try simp only [Act.put, List.setIfInBounds_toArray, List.set_cons_zero, List.set_cons_succ]
  refine wpAnyE_take (i := 13) (oi := ({ dst := some 176, op := Op.binOp BinOp.add 3 (Operand.tmp 175) (Operand.const (Value.int IntKind.i64 1)) 3, type := 3, pos := "match.go:147", after := #[{ on := 12, ground := Ground.data }], guard := none } : Oper)) (v := ?_) rfl (by kernel_rfl) (by kernel_rfl) (by kernel_rfl) (by kernel_rfl) (fun _ _ _ h => HQP.out _ _ _ _ h rfl) (Or.inl ⟨by rfl, ?_⟩) hHeld ?_
  rotate_left
  · intro w' hSw; (try dsimp only at hSw); go_simp <;> with_reducible rfl
  try simp only [Act.put, List.setIfInBounds_toArray, List.set_cons_zero, List.set_cons_succ]
  refine wpAnyE_ready (rs := [14]) (by kernel_rfl) (by simp) ?_
  refine AllReadyE.cons (o := ({ dst := some 177, op := Op.call { callee := Callee.value (Operand.func 33), args := #[Operand.tmp 173, Operand.tmp 174, Operand.tmp 176], argTypes := #[94, 3, 3] }, type := 94, pos := "match.go:147", after := #[{ on := 10, ground := Ground.data }, { on := 11, ground := Ground.data }, { on := 13, ground := Ground.data }], guard := none } : Oper)) rfl (fun K hK => ?_) AllReadyE.nil
  go_simp
  go_at_call 33
  (with_reducible refine (delete_row (HR0.out.rW q (List.mem_of_getElem? HQ.out)) HI.out).mono ?_)
  rintro e W2 ⟨v', rfl, hv, hg, hown⟩
  obtain ⟨hm2, o, hru, hm3, hr3⟩ := wait_del HM0.out HR0.out HWW.out HFF.out HQ.out HS.out hg hv hown
  have HB2 := Lib.hid hm2
  have HRU := Lib.hid hru
  have HM3 := Lib.hid hm3
  have HR3 := Lib.hid hr3
  have HF2 := Lib.hid (row_kept_other HF0.out (HR0.out.rW q (List.mem_of_getElem? HQ.out)) (by decide) hg)
  clear hv hg hown hm2 hru hm3 hr3 HM0 HR0 HF0 HMW HRW
  have hHeld2 : (show World → Prop from fun W1 => W1.heap[b]? = some (.cells #[tv, .int .i64 tol, .slice (some ⟨eg, 0, none⟩) ex.length ec, .map (some m1), .map (some m2), .slice PA ps.length pc] 82 (0, 0)) ∧ W1.heap[c]? = some (.cells (faceC f) 68 (0, 0)) ∧ MapIs W1 m2 (ws.map kwF)) _ := ⟨HB2.out.book, HF2.out, HB2.out.mW⟩
  refine hK.out _ _ (Or.inr hHeld2) (fun _ => ?_)
  clear hK K hHeld
  try clear hb
  have hHeld := hHeld2
  clear hHeld2
  try simp only [Act.put, List.setIfInBounds_toArray, List.set_cons_zero, List.set_cons_succ]
  refine wpAnyE_ready (rs := [15]) (by kernel_rfl) (by simp) ?_
  refine AllReadyE.cons (o := ({ dst := none, op := Op.mapUpdate 78 (Operand.tmp 166) (Operand.tmp 167) (Operand.tmp 177), type := 0, pos := "match.go:147", after := #[{ on := 3, ground := Ground.data }, { on := 4, ground := Ground.data }, { on := 14, ground := Ground.data }, { on := 14, ground := Ground.chain }, { on := 0, ground := Ground.phase }, { on := 1, ground := Ground.phase }, { on := 2, ground := Ground.phase }, { on := 3, ground := Ground.phase }, { on := 4, ground := Ground.phase }, { on := 5, ground := Ground.phase }, { on := 6, ground := Ground.phase }, { on := 7, ground := Ground.phase }, { on := 8, ground := Ground.phase }, { on := 9, ground := Ground.phase }, { on := 10, ground := Ground.phase }, { on := 11, ground := Ground.phase }, { on := 12, ground := Ground.phase }, { on := 13, ground := Ground.phase }, { on := 14, ground := Ground.phase }], guard := none } : Oper)) rfl (fun K hK => ?_) AllReadyE.nil
  rw [if_pos (by rfl)]
  refine wp_mapUpdate_known 78 (.tmp 166) (.tmp 167) (.tmp 177) rfl (.map (some m2)) (keyF f) v' rfl rfl rfl HRU.out ?_
  refine hK.out _ _ (Or.inl ⟨15, by simp, by kernel_rfl⟩) (fun _ => ?_)
  clear hK K
  try clear hHeld
  try clear hb
  try simp only [Act.put, List.setIfInBounds_toArray, List.set_cons_zero, List.set_cons_succ]
  refine wpAnyE_done (by kernel_rfl) ?_ _
  generalize setBlock W2 m2 o = W3 at HM3 HR3 ⊢
  clear HB2 HRU HF2 HFF LF HWW HI hi63 hwr
  have c5 : W3.cell? ⟨b, 5, none⟩ = some (.slice PA ps.length pc) := cell_of_row W3 b 5 _ _ _ HM3.out.book
  have f5 : W3.frozen? ⟨b, 5, none⟩ = false := row_free HM3.out.book 5
  have hbW := HM3.out.book
  have hbs : b < W3.heap.size := (Array.getElem?_eq_some_iff.1 hbW).1
  clear hbW
  go_upto_region 29 with fail
  have HM4 := Lib.hid (HM3.out.grow (bl_alloc (bl_refl W3) (.cells #[.int .i64 (d : Int), .int .i64 (r : Int), .int .i64 am, .bool false] 97)))
  have HR4 := Lib.hid (HR3.out.grow (bl_alloc (bl_refl W3) (.cells #[.int .i64 (d : Int), .int .i64 (r : Int), .int .i64 am, .bool false] 97)))
  have HC4 := Lib.hid (heap_alloc_new W3 (.cells #[.int .i64 (d : Int), .int .i64 (r : Int), .int .i64 am, .bool false] 97))
  clear HM3 HR3
  go_upto_region 30 with (at_builtin; generalize W3.alloc (.cells #[.int .i64 (d : Int), .int .i64 (r : Int), .int .i64 am, .bool false] 97) = W4 at HM4 HR4 HC4 ⊢; generalize W3.heap.size = N4 at HC4 ⊢; refine wpList_append_new rfl (.tmp 187) (.tmp 193) 80 rfl 0 97 i0 (.agg #[.int .i64 0, .int .i64 0, .int .i64 0, .bool false]) 4 32 Tryz.underlying80 hi0 hz0 hz1 hz2 rfl (by decide) (.slice PA ps.length pc) ps.length (ps.flatMap prC) rfl HM4.out.rP ⟨N4, 0, none⟩ 1 1 [.int .i64 (d : Int), .int .i64 (r : Int), .int .i64 am, .bool false] rfl rfl (cells_four HC4.out) (by simp [Value.oneCell']) ?h63 (by have := HPL.out; omega) (Nat.zero_le _) (by decide) ?_; (case h63 => have := HPL.out; unfold maxLen; omega); intro pv' W5 hown hgrow hnew; obtain ⟨PB, pd, rfl⟩ := ow_slice hown; have hown2 := own_prs (q := Pr.mk d r am false) hown; have HM5 := Lib.hid (HM4.out.pairs hgrow (.slice PB (ps.length + 1) pd) (ps ++ [Pr.mk d r am false]) hown2 (inF_of_new hnew HM4.out.iP HM4.out.low.size)); have HR5 := Lib.hid (HR4.out.row HM4.out.rP (by decide) hgrow); clear hown hgrow hnew hown2 HM4 HR4 HC4; have c5 : W5.cell? ⟨b, 5, none⟩ = some (.slice PA ps.length pc) := cell_of_row W5 b 5 _ _ _ HM5.out.book; have f5 : W5.frozen? ⟨b, 5, none⟩ = false := row_free HM5.out.book 5)
  have HM6 : Hid (BkM F w (W5.setCell ⟨b, 5, none⟩ (.slice PB (ps.length + 1) pd)) b tv (.slice (some ⟨eg, 0, none⟩) ex.length ec) (.slice PB (ps.length + 1) pd) m1 m2 ((ws.set j (q.1, v', q.2.2.eraseIdx i)).map kwF) #[tv, .int .i64 tol, .slice (some ⟨eg, 0, none⟩) ex.length ec, .map (some m1), .map (some m2), .slice PB (ps.length + 1) pd] zs nm ex (ps ++ [Pr.mk d r am false])) := Lib.hid (HM5.out.cell 5 (.slice PB (ps.length + 1) pd))
  have HR6 := Lib.hid (HR5.out.other HM5.out.book (by decide) (gb_cell W5 ⟨b, 5, none⟩ (.slice PB (ps.length + 1) pd)))
  clear HM5 HR5 c5 f5
  generalize W5.setCell ⟨b, 5, none⟩ (.slice PB (ps.length + 1) pd) = W6 at HM6 HR6 ⊢
  have hdI : (d : Int) < (ex.length : Int) := by have := HD.out; omega
  have hrI : (r : Int) < (ex.length : Int) := by have := HRR.out; omega
  have HB6 := Lib.hid HM6.out.drew.book
  have HM7 := Lib.hid HM6.out.drew
  have HR7 := Lib.hid HR6.out.drew
  clear HM6 HR6
  refine wp_region_heldE (S := fun W1 => W1.heap[b]? = some (.cells #[tv, .int .i64 tol, .slice (some ⟨eg, 0, none⟩) ex.length ec, .map (some m1), .map (some m2), .slice PB (ps.length + 1) pd] 82 (0, 0))) (ds := [17]) (by kernel_rfl) (HB6.out) (fun hHeld => ?_)
  refine wpAnyE_take (i := 0) (oi := ({ dst := some 197, op := Op.move (Operand.tmp 0), type := 33, pos := "match.go:150", after := #[], guard := none } : Oper)) (v := ?_) rfl (by kernel_rfl) (by kernel_rfl) (by kernel_rfl) (by kernel_rfl) (fun _ _ _ h => HQP.out _ _ _ _ h rfl) (Or.inl ⟨by rfl, ?_⟩) hHeld ?_
  rotate_left
  · intro w' hSw; (try dsimp only at hSw); go_simp <;> with_reducible rfl
  try simp only [Act.put, List.setIfInBounds_toArray, List.set_cons_zero, List.set_cons_succ]
  refine wpAnyE_take (i := 1) (oi := ({ dst := some 198, op := Op.nilCheck (Operand.tmp 197), type := 0, pos := "match.go:150", after := #[{ on := 0, ground := Ground.data }], guard := none } : Oper)) (v := ?_) rfl (by kernel_rfl) (by kernel_rfl) (by kernel_rfl) (by kernel_rfl) (fun _ _ _ h => HQP.out _ _ _ _ h rfl) (Or.inl ⟨by rfl, ?_⟩) hHeld ?_
  rotate_left
  · intro w' hSw; (try dsimp only at hSw); go_simp <;> with_reducible rfl
  try simp only [Act.put, List.setIfInBounds_toArray, List.set_cons_zero, List.set_cons_succ]
  refine wpAnyE_take (i := 2) (oi := ({ dst := some 199, op := Op.fieldAddr 82 (Operand.tmp 198) 2, type := 0, pos := "match.go:150", after := #[{ on := 1, ground := Ground.data }], guard := none } : Oper)) (v := ?_) rfl (by kernel_rfl) (by kernel_rfl) (by kernel_rfl) (by kernel_rfl) (fun _ _ _ h => HQP.out _ _ _ _ h rfl) (Or.inl ⟨by rfl, ?_⟩) hHeld ?_
  rotate_left
  · intro w' hSw; (try dsimp only at hSw); go_simp <;> with_reducible rfl
  try simp only [Act.put, List.setIfInBounds_toArray, List.set_cons_zero, List.set_cons_succ]
  refine wpAnyE_take (i := 3) (oi := ({ dst := some 200, op := Op.load 79 (Operand.tmp 199), type := 79, pos := "match.go:150", after := #[{ on := 2, ground := Ground.data }], guard := none } : Oper)) (v := ?_) rfl (by kernel_rfl) (by kernel_rfl) (by kernel_rfl) (by kernel_rfl) (fun _ _ _ h => HQP.out _ _ _ _ h rfl) (Or.inl ⟨by rfl, ?_⟩) hHeld ?_
  rotate_left
  · intro w' hSw; (try dsimp only at hSw); have hcf := cell_of_row w' b 2 _ _ _ hSw; go_simp <;> with_reducible rfl
  try simp only [Act.put, List.setIfInBounds_toArray, List.set_cons_zero, List.set_cons_succ]
  refine wpAnyE_take (i := 4) (oi := ({ dst := some 201, op := Op.move (Operand.tmp 16), type := 3, pos := "match.go:150", after := #[], guard := none } : Oper)) (v := ?_) rfl (by kernel_rfl) (by kernel_rfl) (by kernel_rfl) (by kernel_rfl) (fun _ _ _ h => HQP.out _ _ _ _ h rfl) (Or.inl ⟨by rfl, ?_⟩) hHeld ?_
  rotate_left
  · intro w' hSw; (try dsimp only at hSw); go_simp <;> with_reducible rfl
  try simp only [Act.put, List.setIfInBounds_toArray, List.set_cons_zero, List.set_cons_succ]
  refine wpAnyE_take (i := 5) (oi := ({ dst := some 202, op := Op.move (Operand.tmp 0), type := 33, pos := "match.go:150", after := #[], guard := none } : Oper)) (v := ?_) rfl (by kernel_rfl) (by kernel_rfl) (by kernel_rfl) (by kernel_rfl) (fun _ _ _ h => HQP.out _ _ _ _ h rfl) (Or.inl ⟨by rfl, ?_⟩) hHeld ?_
  rotate_left
  · intro w' hSw; (try dsimp only at hSw); go_simp <;> with_reducible rfl
  try simp only [Act.put, List.setIfInBounds_toArray, List.set_cons_zero, List.set_cons_succ]
  refine wpAnyE_take (i := 6) (oi := ({ dst := some 203, op := Op.nilCheck (Operand.tmp 202), type := 0, pos := "match.go:150", after := #[{ on := 5, ground := Ground.data }], guard := none } : Oper)) (v := ?_) rfl (by kernel_rfl) (by kernel_rfl) (by kernel_rfl) (by kernel_rfl) (fun _ _ _ h => HQP.out _ _ _ _ h rfl) (Or.inl ⟨by rfl, ?_⟩) hHeld ?_
  rotate_left
  · intro w' hSw; (try dsimp only at hSw); go_simp <;> with_reducible rfl
  try simp only [Act.put, List.setIfInBounds_toArray, List.set_cons_zero, List.set_cons_succ]
  refine wpAnyE_take (i := 7) (oi := ({ dst := some 204, op := Op.fieldAddr 82 (Operand.tmp 203) 2, type := 0, pos := "match.go:150", after := #[{ on := 6, ground := Ground.data }], guard := none } : Oper)) (v := ?_) rfl (by kernel_rfl) (by kernel_rfl) (by kernel_rfl) (by kernel_rfl) (fun _ _ _ h => HQP.out _ _ _ _ h rfl) (Or.inl ⟨by rfl, ?_⟩) hHeld ?_
  rotate_left
  · intro w' hSw; (try dsimp only at hSw); go_simp <;> with_reducible rfl
  try simp only [Act.put, List.setIfInBounds_toArray, List.set_cons_zero, List.set_cons_succ]
  refine wpAnyE_take (i := 8) (oi := ({ dst := some 205, op := Op.load 79 (Operand.tmp 204), type := 79, pos := "match.go:150", after := #[{ on := 7, ground := Ground.data }], guard := none } : Oper)) (v := ?_) rfl (by kernel_rfl) (by kernel_rfl) (by kernel_rfl) (by kernel_rfl) (fun _ _ _ h => HQP.out _ _ _ _ h rfl) (Or.inl ⟨by rfl, ?_⟩) hHeld ?_
  rotate_left
  · intro w' hSw; (try dsimp only at hSw); have hcf := cell_of_row w' b 2 _ _ _ hSw; go_simp <;> with_reducible rfl
  try simp only [Act.put, List.setIfInBounds_toArray, List.set_cons_zero, List.set_cons_succ]
  refine wpAnyE_take (i := 9) (oi := ({ dst := some 206, op := Op.move (Operand.tmp 17), type := 3, pos := "match.go:150", after := #[{ on := 14, ground := Ground.gcOnly Departure.lateStores }], guard := none } : Oper)) (v := ?_) rfl (by kernel_rfl) (by kernel_rfl) (by kernel_rfl) (by kernel_rfl) (fun _ _ _ h => HQP.out _ _ _ _ h rfl) (Or.inl ⟨by rfl, ?_⟩) hHeld ?_
  rotate_left
  · intro w' hSw; (try dsimp only at hSw); go_simp <;> with_reducible rfl
  try simp only [Act.put, List.setIfInBounds_toArray, List.set_cons_zero, List.set_cons_succ]
  refine wpAnyE_take (i := 10) (oi := ({ dst := some 207, op := Op.move (Operand.tmp 20), type := 3, pos := "match.go:150", after := #[], guard := none } : Oper)) (v := ?_) rfl (by kernel_rfl) (by kernel_rfl) (by kernel_rfl) (by kernel_rfl) (fun _ _ _ h => HQP.out _ _ _ _ h rfl) (Or.inl ⟨by rfl, ?_⟩) hHeld ?_
  rotate_left
  · intro w' hSw; (try dsimp only at hSw); go_simp <;> with_reducible rfl
  try simp only [Act.put, List.setIfInBounds_toArray, List.set_cons_zero, List.set_cons_succ]
  refine wpAnyE_take (i := 11) (oi := ({ dst := some 208, op := Op.move (Operand.tmp 20), type := 3, pos := "match.go:150", after := #[{ on := 14, ground := Ground.gcOnly Departure.lateStores }], guard := none } : Oper)) (v := ?_) rfl (by kernel_rfl) (by kernel_rfl) (by kernel_rfl) (by kernel_rfl) (fun _ _ _ h => HQP.out _ _ _ _ h rfl) (Or.inl ⟨by rfl, ?_⟩) hHeld ?_
  rotate_left
  · intro w' hSw; (try dsimp only at hSw); go_simp <;> with_reducible rfl
  try simp only [Act.put, List.setIfInBounds_toArray, List.set_cons_zero, List.set_cons_succ]
  refine wpAnyE_take (i := 12) (oi := ({ dst := some 209, op := Op.indexAddr 79 (Operand.tmp 200) (Operand.tmp 201), type := 0, pos := "match.go:150", after := #[{ on := 3, ground := Ground.data }, { on := 4, ground := Ground.data }, { on := 0, ground := Ground.phase }, { on := 1, ground := Ground.phase }, { on := 2, ground := Ground.phase }, { on := 3, ground := Ground.phase }, { on := 4, ground := Ground.phase }, { on := 5, ground := Ground.textOnly Departure.lateStores }, { on := 6, ground := Ground.textOnly Departure.lateStoresUnsure }, { on := 7, ground := Ground.textOnly Departure.lateStoresUnsure }, { on := 8, ground := Ground.phase }, { on := 9, ground := Ground.textOnly Departure.lateStores }, { on := 10, ground := Ground.phase }, { on := 11, ground := Ground.textOnly Departure.lateStores }], guard := none } : Oper)) (v := ?_) rfl (by kernel_rfl) (by kernel_rfl) (by kernel_rfl) (by kernel_rfl) (fun _ _ _ h => HQP.out _ _ _ _ h rfl) (Or.inl ⟨by rfl, ?_⟩) hHeld ?_
  rotate_left
  · intro w' hSw; (try dsimp only at hSw); go_simp <;> with_reducible rfl
  try simp only [Act.put, List.setIfInBounds_toArray, List.set_cons_zero, List.set_cons_succ]
  refine wpAnyE_take (i := 13) (oi := ({ dst := some 210, op := Op.fieldAddr 93 (Operand.tmp 209) 1, type := 0, pos := "match.go:150", after := #[{ on := 12, ground := Ground.data }, { on := 0, ground := Ground.phase }, { on := 1, ground := Ground.phase }, { on := 2, ground := Ground.phase }, { on := 3, ground := Ground.phase }, { on := 4, ground := Ground.phase }, { on := 5, ground := Ground.textOnly Departure.lateStores }, { on := 6, ground := Ground.textOnly Departure.lateStoresUnsure }, { on := 7, ground := Ground.textOnly Departure.lateStoresUnsure }, { on := 8, ground := Ground.phase }, { on := 9, ground := Ground.textOnly Departure.lateStores }, { on := 10, ground := Ground.phase }, { on := 11, ground := Ground.textOnly Departure.lateStores }], guard := none } : Oper)) (v := ?_) rfl (by kernel_rfl) (by kernel_rfl) (by kernel_rfl) (by kernel_rfl) (fun _ _ _ h => HQP.out _ _ _ _ h rfl) (Or.inl ⟨by rfl, ?_⟩) hHeld ?_
  rotate_left
  · intro w' hSw; (try dsimp only at hSw); go_simp <;> with_reducible rfl
  try simp only [Act.put, List.setIfInBounds_toArray, List.set_cons_zero, List.set_cons_succ]
  refine wpAnyE_ready (rs := [14]) (by kernel_rfl) (by simp) ?_
  refine AllReadyE.cons (o := ({ dst := none, op := Op.store 3 (Operand.tmp 210) (Operand.tmp 207), type := 0, pos := "match.go:150", after := #[{ on := 13, ground := Ground.data }, { on := 10, ground := Ground.data }, { on := 0, ground := Ground.phase }, { on := 1, ground := Ground.phase }, { on := 2, ground := Ground.phase }, { on := 3, ground := Ground.phase }, { on := 4, ground := Ground.phase }, { on := 5, ground := Ground.textOnly Departure.lateStores }, { on := 6, ground := Ground.textOnly Departure.lateStoresUnsure }, { on := 7, ground := Ground.textOnly Departure.lateStoresUnsure }, { on := 8, ground := Ground.phase }, { on := 9, ground := Ground.textOnly Departure.lateStores }, { on := 10, ground := Ground.phase }, { on := 11, ground := Ground.textOnly Departure.lateStores }], guard := none } : Oper)) rfl (fun K hK => ?_) AllReadyE.nil
  generalize W6.drew = W7 at HM7 HR7 hHeld ⊢
  obtain ⟨cc, cf⟩ := entCell_facts HM7.out rfl (k := 28) HD.out (by decide)
  have cc2 : W7.cell? ⟨eg, d * 31 + 28, none⟩ = some (.int .i64 (ex.getD d ent0).pair) := cc
  clear cc
  go_simp
  obtain ⟨hm8, hg8⟩ := HM7.out.entCell rfl HD.out (k := 28) (by decide) (.int .i64 (ps.length : Int)) { ex.getD d ent0 with pair := (ps.length : Int) } (entC_set _ _) rfl rfl
  have HM8 := Lib.hid hm8
  have HR8 := Lib.hid (HR7.out.row HM7.out.rE (by decide) hg8)
  clear hm8 hg8 cc2 cf
  have HB8 := Lib.hid HM8.out.book
  clear HM7 HR7
  have hHeld2 : (show World → Prop from fun W1 => W1.heap[b]? = some (.cells #[tv, .int .i64 tol, .slice (some ⟨eg, 0, none⟩) ex.length ec, .map (some m1), .map (some m2), .slice PB (ps.length + 1) pd] 82 (0, 0))) _ := HB8.out
  refine hK.out _ _ (Or.inr hHeld2) (fun _ => ?_)
  clear hK K hHeld
  try clear hb
  have hHeld := hHeld2
  clear hHeld2
  try simp only [Act.put, List.setIfInBounds_toArray, List.set_cons_zero, List.set_cons_succ]
  refine wpAnyE_ready (rs := [15]) (by kernel_rfl) (by simp) ?_
  refine AllReadyE.cons (o := ({ dst := some 211, op := Op.indexAddr 79 (Operand.tmp 205) (Operand.tmp 206), type := 0, pos := "match.go:150", after := #[{ on := 8, ground := Ground.data }, { on := 9, ground := Ground.data }, { on := 0, ground := Ground.phase }, { on := 1, ground := Ground.phase }, { on := 2, ground := Ground.phase }, { on := 3, ground := Ground.phase }, { on := 4, ground := Ground.phase }, { on := 5, ground := Ground.phase }, { on := 6, ground := Ground.phase }, { on := 7, ground := Ground.phase }, { on := 8, ground := Ground.phase }, { on := 9, ground := Ground.phase }, { on := 10, ground := Ground.phase }, { on := 11, ground := Ground.phase }, { on := 12, ground := Ground.phase }, { on := 13, ground := Ground.phase }, { on := 14, ground := Ground.phase }], guard := none } : Oper)) rfl (fun K hK => ?_) AllReadyE.nil
  go_simp
  have hHeld2 : (show World → Prop from fun W1 => W1.heap[b]? = some (.cells #[tv, .int .i64 tol, .slice (some ⟨eg, 0, none⟩) ex.length ec, .map (some m1), .map (some m2), .slice PB (ps.length + 1) pd] 82 (0, 0))) _ := hHeld
  refine hK.out _ _ (Or.inr hHeld2) (fun _ => ?_)
  clear hK K hHeld
  try clear hb
  have hHeld := hHeld2
  clear hHeld2
  try simp only [Act.put, List.setIfInBounds_toArray, List.set_cons_zero, List.set_cons_succ]
  refine wpAnyE_take (i := 16) (oi := ({ dst := some 212, op := Op.fieldAddr 93 (Operand.tmp 211) 1, type := 0, pos := "match.go:150", after := #[{ on := 15, ground := Ground.data }, { on := 0, ground := Ground.phase }, { on := 1, ground := Ground.phase }, { on := 2, ground := Ground.phase }, { on := 3, ground := Ground.phase }, { on := 4, ground := Ground.phase }, { on := 5, ground := Ground.phase }, { on := 6, ground := Ground.phase }, { on := 7, ground := Ground.phase }, { on := 8, ground := Ground.phase }, { on := 9, ground := Ground.phase }, { on := 10, ground := Ground.phase }, { on := 11, ground := Ground.phase }, { on := 12, ground := Ground.phase }, { on := 13, ground := Ground.phase }, { on := 14, ground := Ground.phase }], guard := none } : Oper)) (v := ?_) rfl (by kernel_rfl) (by kernel_rfl) (by kernel_rfl) (by kernel_rfl) (fun _ _ _ h => HQP.out _ _ _ _ h rfl) (Or.inl ⟨by rfl, ?_⟩) hHeld ?_
  rotate_left
  · intro w' hSw; (try dsimp only at hSw); go_simp <;> with_reducible rfl
  try simp only [Act.put, List.setIfInBounds_toArray, List.set_cons_zero, List.set_cons_succ]
  refine wpAnyE_ready (rs := [17]) (by kernel_rfl) (by simp) ?_
  refine AllReadyE.cons (o := ({ dst := none, op := Op.store 3 (Operand.tmp 212) (Operand.tmp 208), type := 0, pos := "match.go:150", after := #[{ on := 16, ground := Ground.data }, { on := 11, ground := Ground.data }, { on := 14, ground := Ground.chain }, { on := 0, ground := Ground.phase }, { on := 1, ground := Ground.phase }, { on := 2, ground := Ground.phase }, { on := 3, ground := Ground.phase }, { on := 4, ground := Ground.phase }, { on := 5, ground := Ground.phase }, { on := 6, ground := Ground.phase }, { on := 7, ground := Ground.phase }, { on := 8, ground := Ground.phase }, { on := 9, ground := Ground.phase }, { on := 10, ground := Ground.phase }, { on := 11, ground := Ground.phase }, { on := 12, ground := Ground.phase }, { on := 13, ground := Ground.phase }, { on := 14, ground := Ground.phase }], guard := none } : Oper)) rfl (fun K hK => ?_) AllReadyE.nil
  generalize W7.setCell ⟨eg, d * 31 + 28, none⟩ (.int .i64 (ps.length : Int)) = W8 at HM8 HR8 HB8 ⊢
  obtain ⟨cc, cf⟩ := entCell_facts HM8.out (by simp) (d := r) (k := 28) (by simpa using HRR.out) (by decide)
  have cc2 : W8.cell? ⟨eg, r * 31 + 28, none⟩ = some (.int .i64 ((ex.set d { ex.getD d ent0 with pair := (ps.length : Int) }).getD r ent0).pair) := cc
  clear cc hHeld
  go_simp
  obtain ⟨hm9, hg9⟩ := HM8.out.entCell (by simp) (d := r) (by simpa using HRR.out) (k := 28) (by decide) (.int .i64 (ps.length : Int)) { (ex.set d { ex.getD d ent0 with pair := (ps.length : Int) }).getD r ent0 with pair := (ps.length : Int) } (entC_set _ _) rfl rfl
  have HM9 := Lib.hid hm9
  have HR9 := Lib.hid (HR8.out.row HM8.out.rE (by decide) hg9)
  clear hm9 hg9 cc2 cf HM8 HR8 HB8
  refine hK.out _ _ (Or.inl ⟨17, by simp, by kernel_rfl⟩) (fun _ => ?_)
  clear hK K
  try clear hHeld
  try clear hb
  try simp only [Act.put, List.setIfInBounds_toArray, List.set_cons_zero, List.set_cons_succ]
  refine wpAnyE_done (by kernel_rfl) ?_ _
  generalize W8.setCell ⟨eg, r * 31 + 28, none⟩ (.int .i64 (ps.length : Int)) = W9 at HM9 HR9 ⊢
  have HEND := Lib.hid (fun T h1 h2 h3 => HP.out T W9 _ _ v' h1 h2 h3 HM9.out HR9.out)
  clear HM9 HR9 HP
  go_wp2
  exact HEND.out _ rfl rfl rfl
end Go.Proofs.YtphabkaiheplpaaGreatDoor
