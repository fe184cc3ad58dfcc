/- Joined texts of this proof: BkA27, BkA19, BkCo, BkH. -/
import Derived.Outline
import Derived.Test.YtphabkaiheplpaaGreatDoorRests13
import Derived.Test.YtphabkaiheplpaaGreatDoorRests19
/- (*match.Book).Add, its piece where another side has been found: both become a pair. -/
set_option linter.unusedVariables false
set_option linter.unusedSimpArgs false
set_option maxRecDepth 100000
namespace Go.Proofs.YtphabkaiheplpaaGreatDoor
open Go.RowKit Go.Shelf Go.Maps
open Go.ChangeMaps (setBlock)

theorem entC_set (e : Ent) (p : Int) : (entC e).set 28 (.int .i64 p) = entC { e with pair := p } := by kernel_rfl
theorem ents_cell (es : List Ent) (k : Nat) (v : Value) (hk : k < 31) : ∀ (d : Nat) (e' : Ent), d < es.length → (entC (es.getD d ent0)).set k v = entC e' → (es.flatMap entC).set (d * 31 + k) v = (es.set d e').flatMap entC := by
  induction es with
  | nil => intro d e' h; cases h
  | cons e r ih =>
    intro d e' h he
    cases d with
    | zero =>
      have he2 : (entC e).set k v = entC e' := he
      rw [List.flatMap_cons, List.set_append_left _ _ (by rw [entC_length]; omega), Nat.zero_mul, Nat.zero_add, he2, List.set_cons_zero, List.flatMap_cons]
    | succ d =>
      rw [List.flatMap_cons, List.set_append_right _ _ (by rw [entC_length]; omega), entC_length, show (d + 1) * 31 + k - 31 = d * 31 + k by omega, ih d e' (by simpa using h) he, List.set_cons_succ, List.flatMap_cons]
theorem ents_at (es : List Ent) : ∀ (d j : Nat), d < es.length → j < 31 → (es.flatMap entC)[d * 31 + j]? = (entC (es.getD d ent0))[j]? := by
  induction es with
  | nil => intro d j h; cases h
  | cons e r ih =>
    intro d j h hj
    cases d with
    | zero =>
      rw [List.flatMap_cons, List.getElem?_append_left (by rw [entC_length]; omega), Nat.zero_mul, Nat.zero_add]
      rfl
    | succ d =>
      rw [List.flatMap_cons, List.getElem?_append_right (by rw [entC_length]; omega), entC_length, show (d + 1) * 31 + j - 31 = d * 31 + j by omega, ih d j (by simpa using h) hj]
      rfl
theorem getD_mem {es : List Ent} {d : Nat} (h : d < es.length) : es.getD d ent0 ∈ es := by
  rw [List.getD_eq_getElem?_getD, List.getElem?_eq_getElem h]
  exact List.getElem_mem h
/-- One cell of one entry. -/
theorem BkM.entCell {F : Nat → Prop} {w W : World} {b n : Nat} {tv pv : Value} {m1 m2 eg ec : Nat} {kw : List (Value × Value)} {C : Array Value} {zs : List ByteArray} {nm : List (Value × Value)} {es : List Ent} {ps : List Pr}
    (h : BkM F w W b tv (.slice (some ⟨eg, 0, none⟩) n ec) pv m1 m2 kw C zs nm es ps) (hn : es.length = n) {d k : Nat} (hd : d < es.length) (hk : k < 31) (v : Value) (e' : Ent) (he : (entC (es.getD d ent0)).set k v = entC e') (hx : e'.x = (es.getD d ent0).x) (hl : e'.lx = (es.getD d ent0).lx) :
    BkM F w (W.setCell ⟨eg, d * 31 + k, none⟩ v) b tv (.slice (some ⟨eg, 0, none⟩) n ec) pv m1 m2 kw C zs nm (es.set d e') ps ∧ W.grownBy (W.setCell ⟨eg, d * 31 + k, none⟩ v) (some eg) := by
  subst hn
  have hs := h.rE.stored (d * 31 + k) v
  rw [ents_cell es k v hk d e' hd he] at hs
  refine ⟨h.ents hs.2 _ _ ?_ h.iE ?_ ?_, hs.2⟩
  · rw [List.length_set]; exact hs.1
  · intro e hm
    rcases mem_set_of hm with rfl | hm
    · rw [hx, hl]; exact h.rL _ (getD_mem hd)
    · exact h.rL e hm
  · intro e hm a ha
    rcases mem_set_of hm with rfl | hm
    · rw [hx] at ha; exact h.iL _ (getD_mem hd) a ha
    · exact h.iL e hm a ha
theorem entCell_facts {F : Nat → Prop} {w W : World} {b n : Nat} {tv pv : Value} {m1 m2 eg ec : Nat} {kw : List (Value × Value)} {C : Array Value} {zs : List ByteArray} {nm : List (Value × Value)} {es : List Ent} {ps : List Pr}
    (h : BkM F w W b tv (.slice (some ⟨eg, 0, none⟩) n ec) pv m1 m2 kw C zs nm es ps) (hn : es.length = n) {d k : Nat} (hd : d < es.length) (hk : k < 31) : W.cell? ⟨eg, d * 31 + k, none⟩ = (entC (es.getD d ent0))[k]? ∧ W.frozen? ⟨eg, d * 31 + k, none⟩ = false := by
  subst hn
  exact ⟨by rw [h.rE.cellAt (d * 31 + k) (by omega), ents_at es d k hd hk], h.rE.frozenAt _⟩
theorem prs_snoc (ps : List Pr) (q : Pr) : ps.flatMap prC ++ prC q = (ps ++ [q]).flatMap prC := by simp
theorem own_prs {W : World} {v : Value} {ps : List Pr} {q : Pr} (h : W.ownsRow 0 97 4 v (ps.length + 1) (ps.flatMap prC ++ prC q)) : W.ownsRow 0 97 4 v (ps ++ [q]).length ((ps ++ [q]).flatMap prC) := by
  rw [← prs_snoc, List.length_append]
  exact h
theorem infoP : (Tryz.prog.info? 97).map (fun i => (i.zero, i.size, i.bytes)) = some (some (.agg #[.int .i64 0, .int .i64 0, .int .i64 0, .bool false]), 4, 32) := by kernel_rfl
/-- The entries with one more pair. -/
def paired (es : List Ent) (d r : Nat) (p : Int) : List Ent := (es.set d { es.getD d ent0 with pair := p }).set r { (es.set d { es.getD d ent0 with pair := p }).getD r ent0 with pair := p }
theorem paired_length (es : List Ent) (d r : Nat) (p : Int) : (paired es d r p).length = es.length := by simp [paired]
theorem cells_four {W : World} {g : Nat} {v0 v1 v2 v3 : Value} {T : TypeId} (h : W.heap[g]? = some (.cells #[v0, v1, v2, v3] T (0, 0))) : ∀ j u, [v0, v1, v2, v3][j]? = some u → W.cell? ((⟨g, 0, none⟩ : Addr).add j) = some u := by
  intro j u hj
  rw [Addr.add_lit, Nat.zero_add, cell_of_row W g j _ _ _ h]
  simpa using hj
theorem inF_of_new {F : Nat → Prop} {B : Nat} {W : World} {v v' : Value} (h : OrNew W v v') (hi : ∀ g, v.ownBlock = some g → inF F B g) (hB : B ≤ W.heap.size) : ∀ g, v'.ownBlock = some g → inF F B g := fun g hg => by
  rcases h with h | ⟨g', h, h2⟩
  · exact hi g (by rw [← h]; exact hg)
  · rw [hg] at h
    obtain rfl := Option.some.inj h
    exact .inr (by omega)
theorem own_addr {W : World} {base : Nat} {e : TypeId} {size n c : Nat} {A : Option Addr} {xs : List Value} (h : W.ownsRow base e size (.slice A n c) n xs) (hn : 0 < n) : ∃ g, A = some ⟨g, 0, none⟩ := by
  rcases h.2 with ⟨_, h0⟩ | ⟨g, cap, cur, he, _⟩
  · omega
  · injection he with h1 _ _
    exact ⟨g, h1⟩
noncomputable def tail27 : Code := ((Tryz.f10.body.bind (fromR 27)).getD .skip)
set_option maxHeartbeats 8000000 in
set_option maxRecDepth 1000000 in
theorem add_tail27 {F : Nat → Prop} {w W : World} {b c : Nat} {tv ev pv : Value} {m1 m2 : Nat} {ws : List Wq} {zs : List ByteArray} {tol : Int} {nm : List (Value × Value)} {es : List Ent} {ex : List Ent} {ps : List Pr} {f : Fc} {q : Wq} {i j d r n : Nat} {am : Int} (u1 u2 u3 u4 u5 u6 u7 u8 u9 u10 u12 u15 u19 u20 u21 u22 u23 u24 u25 u26 u27 u28 u29 u30 u31 u32 u33 u34 u35 u36 u37 u38 u39 u40 u41 u42 u43 u44 u45 u46 u47 u48 u49 u50 u51 u52 u53 u54 u55 u56 u57 u58 u59 u60 u61 u62 u63 u64 u65 u66 u67 u68 u69 u70 u71 u72 u73 u74 u75 u76 u77 u78 u79 u80 u81 u82 u83 u84 u85 u86 u87 u88 u89 u90 u91 u92 u93 u94 u95 u96 u97 u98 u99 u100 u101 u102 u103 u104 u105 u106 u107 u108 u109 u110 u111 u112 u113 u114 u115 u116 u117 u118 u119 u120 u121 u122 u123 u124 u125 u126 u127 u128 u129 u130 u131 u132 u133 u134 u135 u136 u137 u138 u139 u140 u141 u142 u143 u144 u145 u146 u147 u148 u149 u150 u151 u152 u153 u154 u155 u156 u157 u158 u159 u160 u161 u162 u163 u164 u165 u166 u167 u168 u169 u170 u171 u172 u173 u174 u175 u176 u177 u178 u179 u180 u181 u182 u183 u184 u185 u186 u187 u188 u189 u190 u191 u192 u193 u194 u195 u196 u197 u198 u199 u200 u201 u202 u203 u204 u205 u206 u207 u208 u209 u210 u211 u212 u213 u214 u215 u216 u217 u218 u219 u220 u221 u222 u223 u224 u225 u226 u227 : Value) {Q : Exit → Act → World → Prop}
    (HM : BkM F w W b tv ev pv m1 m2 (ws.map kwF) #[tv, .int .i64 tol, ev, .map (some m1), .map (some m2), pv] zs nm ex ps) (HR : WsR F w.heap.size W ws) (HW : WsOk zs es ws) (hf : f.wf)
    (hface : W.heap[c]? = some (.cells (faceC f) 68 (0, 0))) (hq : ws[j]? = some q) (hs : sameFace q.1 f = true) (hi : i < q.2.2.length) (hil : q.2.2.length ≤ 1000000000000000) (hd : d < ex.length) (hr : r < ex.length) (hel : ex.length ≤ 1000000000000) (hpl : (ps.length + 1) * 32 ≤ 140737488355328)
    (hQp : ∀ c (a a' : Act) w, Q (.panic c) a w → a'.defers = a.defers → Q (.panic c) a' w)
    (post : ∀ (T : Array Value) (W' : World) (ev' pv' v' : Value), T.getD 4 undef = .int .i64 (n : Int) → T.getD 5 undef = .int .i64 (ps.length : Int) → T.getD 6 undef = .nilIface →
      BkM F w W' b tv ev' pv' m1 m2 ((ws.set j (q.1, v', q.2.2.eraseIdx i)).map kwF) #[tv, .int .i64 tol, ev', .map (some m1), .map (some m2), pv'] zs nm (paired ex d r ps.length) (ps ++ [Pr.mk d r am false]) → WsR F w.heap.size W' (ws.set j (q.1, v', q.2.2.eraseIdx i)) → Q .ret ⟨T, []⟩ W') :
    Code.wp Tryz.prog tail27 Q ⟨#[.pointer (some ⟨b, 0, none⟩), u1, u2, u3, u4, u5, u6, u7, u8, u9, u10, .int .i64 (n : Int), u12, .pointer (some ⟨c, 0, none⟩), .int .i64 (i : Int), u15, .int .i64 (d : Int), .int .i64 (r : Int), .int .i64 am, u19, u20, u21, u22, u23, u24, u25, u26, u27, u28, u29, u30, u31, u32, u33, u34, u35, u36, u37, u38, u39, u40, u41, u42, u43, u44, u45, u46, u47, u48, u49, u50, u51, u52, u53, u54, u55, u56, u57, u58, u59, u60, u61, u62, u63, u64, u65, u66, u67, u68, u69, u70, u71, u72, u73, u74, u75, u76, u77, u78, u79, u80, u81, u82, u83, u84, u85, u86, u87, u88, u89, u90, u91, u92, u93, u94, u95, u96, u97, u98, u99, u100, u101, u102, u103, u104, u105, u106, u107, u108, u109, u110, u111, u112, u113, u114, u115, u116, u117, u118, u119, u120, u121, u122, u123, u124, u125, u126, u127, u128, u129, u130, u131, u132, u133, u134, u135, u136, u137, u138, u139, u140, u141, u142, u143, u144, u145, u146, u147, u148, u149, u150, u151, u152, u153, u154, u155, u156, u157, u158, u159, u160, u161, u162, u163, u164, u165, u166, u167, u168, u169, u170, u171, u172, u173, u174, u175, u176, u177, u178, u179, u180, u181, u182, u183, u184, u185, u186, u187, u188, u189, u190, u191, u192, u193, u194, u195, u196, u197, u198, u199, u200, u201, u202, u203, u204, u205, u206, u207, u208, u209, u210, u211, u212, u213, u214, u215, u216, u217, u218, u219, u220, u221, u222, u223, u224, u225, u226, u227], []⟩ W := by
  obtain ⟨i0, hi0, hz0, hz1, hz2⟩ := Sp.info_of infoP
  obtain ⟨EA, ec, hev⟩ := ow_slice HM.rE
  obtain ⟨PA, pc, hpv⟩ := ow_slice HM.rP
  subst hev hpv
  obtain ⟨eg, rfl⟩ := own_addr HM.rE (by omega)
  have HMW := Lib.hid HM
  have HRW := Lib.hid HR
  have HM0 := Lib.hid HM.drew
  have HR0 := Lib.hid HR.drew
  have HF0 : Hid (W.drew.heap[c]? = some (.cells (faceC f) 68 (0, 0))) := Lib.hid hface
  have HP := Lib.hid post
  have HQP := Lib.hid hQp
  have HWW := Lib.hid HW
  have HFF := Lib.hid hf
  have HQ := Lib.hid hq
  have HS := Lib.hid hs
  have LF := Lib.hid (fun W1 h => load_face f W1 c 68 h)
  have hi63 : (i : Int) + 1 ≤ 9223372036854775807 := by omega
  have HI := Lib.hid hi
  have hwr : IntKind.i64.wrap ((i : Int) + 1) = (i : Int) + 1 := by rw [IntKind.wrap_i64]; omega
  have HEL := Lib.hid hel
  have HPL := Lib.hid hpl
  have HD := Lib.hid hd
  have HRR := Lib.hid hr
  clear HM HR hface hQp post HW hf hq hs hi hil hel hpl hd hr
  conv => arg 2; whnf
  dsimp only
  go_upto_region 27 with fail
  refine wp_region_heldE (S := fun W1 => W1.heap[b]? = some (.cells #[tv, .int .i64 tol, .slice (some ⟨eg, 0, none⟩) ex.length ec, .map (some m1), .map (some m2), .slice PA ps.length pc] 82 (0, 0)) ∧ W1.heap[c]? = some (.cells (faceC f) 68 (0, 0)) ∧ MapIs W1 m2 (ws.map kwF)) (ds := [15]) (by kernel_rfl) (⟨HM0.out.book, HF0.out, HM0.out.mW⟩) (fun hHeld => ?_)
  refine wpAnyE_take (i := 0) (oi := ({ dst := some 163, op := Op.move (Operand.tmp 0), type := 33, pos := "match.go:147", after := #[], guard := none } : Oper)) (v := ?_) rfl (by kernel_rfl) (by kernel_rfl) (by kernel_rfl) (by kernel_rfl) (fun _ _ _ h => HQP.out _ _ _ _ h rfl) (Or.inl ⟨by rfl, ?_⟩) hHeld ?_
  rotate_left
  · intro w' hSw; (try dsimp only at hSw); go_simp <;> with_reducible rfl
  try simp only [Act.put, List.setIfInBounds_toArray, List.set_cons_zero, List.set_cons_succ]
  refine wpAnyE_take (i := 1) (oi := ({ dst := some 164, op := Op.nilCheck (Operand.tmp 163), type := 0, pos := "match.go:147", after := #[{ on := 0, ground := Ground.data }], guard := none } : Oper)) (v := ?_) rfl (by kernel_rfl) (by kernel_rfl) (by kernel_rfl) (by kernel_rfl) (fun _ _ _ h => HQP.out _ _ _ _ h rfl) (Or.inl ⟨by rfl, ?_⟩) hHeld ?_
  rotate_left
  · intro w' hSw; (try dsimp only at hSw); go_simp <;> with_reducible rfl
  try simp only [Act.put, List.setIfInBounds_toArray, List.set_cons_zero, List.set_cons_succ]
  refine wpAnyE_take (i := 2) (oi := ({ dst := some 165, op := Op.fieldAddr 82 (Operand.tmp 164) 4, type := 0, pos := "match.go:147", after := #[{ on := 1, ground := Ground.data }], guard := none } : Oper)) (v := ?_) rfl (by kernel_rfl) (by kernel_rfl) (by kernel_rfl) (by kernel_rfl) (fun _ _ _ h => HQP.out _ _ _ _ h rfl) (Or.inl ⟨by rfl, ?_⟩) hHeld ?_
  rotate_left
  · intro w' hSw; (try dsimp only at hSw); go_simp <;> with_reducible rfl
  try simp only [Act.put, List.setIfInBounds_toArray, List.set_cons_zero, List.set_cons_succ]
  refine wpAnyE_take (i := 3) (oi := ({ dst := some 166, op := Op.load 78 (Operand.tmp 165), type := 78, pos := "match.go:147", after := #[{ on := 2, ground := Ground.data }], guard := none } : Oper)) (v := ?_) rfl (by kernel_rfl) (by kernel_rfl) (by kernel_rfl) (by kernel_rfl) (fun _ _ _ h => HQP.out _ _ _ _ h rfl) (Or.inl ⟨by rfl, ?_⟩) hHeld ?_
  rotate_left
  · intro w' hSw; (try dsimp only at hSw); have hcf := cell_of_row w' b 4 _ _ _ hSw.1; go_simp <;> with_reducible rfl
  try simp only [Act.put, List.setIfInBounds_toArray, List.set_cons_zero, List.set_cons_succ]
  refine wpAnyE_take (i := 4) (oi := ({ dst := some 167, op := Op.load 68 (Operand.tmp 13), type := 68, pos := "match.go:147", after := #[], guard := none } : Oper)) (v := .agg (faceC f)) rfl (by kernel_rfl) (by kernel_rfl) (by kernel_rfl) (by kernel_rfl) (fun _ _ _ h => HQP.out _ _ _ _ h rfl) (yieldsIf_load_known (by rfl) 68 (Operand.tmp 13) rfl ⟨c, 0, none⟩ (.agg (faceC f)) rfl (fun w' h => LF.out w' h.2.1)) hHeld ?_
  try simp only [Act.put, List.setIfInBounds_toArray, List.set_cons_zero, List.set_cons_succ]
  refine wpAnyE_take (i := 5) (oi := ({ dst := some 168, op := Op.move (Operand.tmp 0), type := 33, pos := "match.go:147", after := #[], guard := none } : Oper)) (v := ?_) rfl (by kernel_rfl) (by kernel_rfl) (by kernel_rfl) (by kernel_rfl) (fun _ _ _ h => HQP.out _ _ _ _ h rfl) (Or.inl ⟨by rfl, ?_⟩) hHeld ?_
  rotate_left
  · intro w' hSw; (try dsimp only at hSw); go_simp <;> with_reducible rfl
  try simp only [Act.put, List.setIfInBounds_toArray, List.set_cons_zero, List.set_cons_succ]
  refine wpAnyE_take (i := 6) (oi := ({ dst := some 169, op := Op.nilCheck (Operand.tmp 168), type := 0, pos := "match.go:147", after := #[{ on := 5, ground := Ground.data }], guard := none } : Oper)) (v := ?_) rfl (by kernel_rfl) (by kernel_rfl) (by kernel_rfl) (by kernel_rfl) (fun _ _ _ h => HQP.out _ _ _ _ h rfl) (Or.inl ⟨by rfl, ?_⟩) hHeld ?_
  rotate_left
  · intro w' hSw; (try dsimp only at hSw); go_simp <;> with_reducible rfl
  try simp only [Act.put, List.setIfInBounds_toArray, List.set_cons_zero, List.set_cons_succ]
  refine wpAnyE_take (i := 7) (oi := ({ dst := some 170, op := Op.fieldAddr 82 (Operand.tmp 169) 4, type := 0, pos := "match.go:147", after := #[{ on := 6, ground := Ground.data }], guard := none } : Oper)) (v := ?_) rfl (by kernel_rfl) (by kernel_rfl) (by kernel_rfl) (by kernel_rfl) (fun _ _ _ h => HQP.out _ _ _ _ h rfl) (Or.inl ⟨by rfl, ?_⟩) hHeld ?_
  rotate_left
  · intro w' hSw; (try dsimp only at hSw); go_simp <;> with_reducible rfl
  try simp only [Act.put, List.setIfInBounds_toArray, List.set_cons_zero, List.set_cons_succ]
  refine wpAnyE_take (i := 8) (oi := ({ dst := some 171, op := Op.load 78 (Operand.tmp 170), type := 78, pos := "match.go:147", after := #[{ on := 7, ground := Ground.data }], guard := none } : Oper)) (v := ?_) rfl (by kernel_rfl) (by kernel_rfl) (by kernel_rfl) (by kernel_rfl) (fun _ _ _ h => HQP.out _ _ _ _ h rfl) (Or.inl ⟨by rfl, ?_⟩) hHeld ?_
  rotate_left
  · intro w' hSw; (try dsimp only at hSw); have hcf := cell_of_row w' b 4 _ _ _ hSw.1; go_simp <;> with_reducible rfl
  try simp only [Act.put, List.setIfInBounds_toArray, List.set_cons_zero, List.set_cons_succ]
  refine wpAnyE_take (i := 9) (oi := ({ dst := some 172, op := Op.load 68 (Operand.tmp 13), type := 68, pos := "match.go:147", after := #[], guard := none } : Oper)) (v := .agg (faceC f)) rfl (by kernel_rfl) (by kernel_rfl) (by kernel_rfl) (by kernel_rfl) (fun _ _ _ h => HQP.out _ _ _ _ h rfl) (yieldsIf_load_known (by rfl) 68 (Operand.tmp 13) rfl ⟨c, 0, none⟩ (.agg (faceC f)) rfl (fun w' h => LF.out w' h.2.1)) hHeld ?_
  try simp only [Act.put, List.setIfInBounds_toArray, List.set_cons_zero, List.set_cons_succ]
  refine wpAnyE_take (i := 10) (oi := ({ dst := some 173, op := Op.lookup 78 (Operand.tmp 171) (Operand.tmp 172) false, type := 94, pos := "match.go:147", after := #[{ on := 8, ground := Ground.data }, { on := 9, ground := Ground.data }], guard := none } : Oper)) (v := q.2.1) rfl (by kernel_rfl) (by kernel_rfl) (by kernel_rfl) (by kernel_rfl) (fun _ _ _ h => HQP.out _ _ _ _ h rfl) (yields_lookup (by rfl) 78 (.tmp 171) (.tmp 172) false rfl (.map (some m2)) (keyF f) q.2.1 rfl rfl (fun w' h => wait_get h.2.2 HWW.out HFF.out HQ.out HS.out)) hHeld ?_
  try simp only [Act.put, List.setIfInBounds_toArray, List.set_cons_zero, List.set_cons_succ]
  refine wpAnyE_take (i := 11) (oi := ({ dst := some 174, op := Op.move (Operand.tmp 14), type := 3, pos := "match.go:147", after := #[], guard := none } : Oper)) (v := ?_) rfl (by kernel_rfl) (by kernel_rfl) (by kernel_rfl) (by kernel_rfl) (fun _ _ _ h => HQP.out _ _ _ _ h rfl) (Or.inl ⟨by rfl, ?_⟩) hHeld ?_
  rotate_left
  · intro w' hSw; (try dsimp only at hSw); go_simp <;> with_reducible rfl
  try simp only [Act.put, List.setIfInBounds_toArray, List.set_cons_zero, List.set_cons_succ]
  refine wpAnyE_take (i := 12) (oi := ({ dst := some 175, op := Op.move (Operand.tmp 14), type := 3, pos := "match.go:147", after := #[], guard := none } : Oper)) (v := ?_) rfl (by kernel_rfl) (by kernel_rfl) (by kernel_rfl) (by kernel_rfl) (fun _ _ _ h => HQP.out _ _ _ _ h rfl) (Or.inl ⟨by rfl, ?_⟩) hHeld ?_
  rotate_left
  · intro w' hSw; (try dsimp only at hSw); go_simp <;> with_reducible rfl
  try simp only [Act.put, List.setIfInBounds_toArray, List.set_cons_zero, List.set_cons_succ]
  refine wpAnyE_take (i := 13) (oi := ({ dst := some 176, op := Op.binOp BinOp.add 3 (Operand.tmp 175) (Operand.const (Value.int IntKind.i64 1)) 3, type := 3, pos := "match.go:147", after := #[{ on := 12, ground := Ground.data }], guard := none } : Oper)) (v := ?_) rfl (by kernel_rfl) (by kernel_rfl) (by kernel_rfl) (by kernel_rfl) (fun _ _ _ h => HQP.out _ _ _ _ h rfl) (Or.inl ⟨by rfl, ?_⟩) hHeld ?_
  rotate_left
  · intro w' hSw; (try dsimp only at hSw); go_simp <;> with_reducible rfl
  try simp only [Act.put, List.setIfInBounds_toArray, List.set_cons_zero, List.set_cons_succ]
  refine wpAnyE_ready (rs := [14]) (by kernel_rfl) (by simp) ?_
  refine AllReadyE.cons (o := ({ dst := some 177, op := Op.call { callee := Callee.value (Operand.func 33), args := #[Operand.tmp 173, Operand.tmp 174, Operand.tmp 176], argTypes := #[94, 3, 3] }, type := 94, pos := "match.go:147", after := #[{ on := 10, ground := Ground.data }, { on := 11, ground := Ground.data }, { on := 13, ground := Ground.data }], guard := none } : Oper)) rfl (fun K hK => ?_) AllReadyE.nil
  go_simp
  go_at_call 33
  (with_reducible refine (delete_row (HR0.out.rW q (List.mem_of_getElem? HQ.out)) HI.out).mono ?_)
  rintro e W2 ⟨v', rfl, hv, hg, hown⟩
  obtain ⟨hm2, o, hru, hm3, hr3⟩ := wait_del HM0.out HR0.out HWW.out HFF.out HQ.out HS.out hg hv hown
  have HB2 := Lib.hid hm2
  have HRU := Lib.hid hru
  have HM3 := Lib.hid hm3
  have HR3 := Lib.hid hr3
  have HF2 := Lib.hid (row_kept_other HF0.out (HR0.out.rW q (List.mem_of_getElem? HQ.out)) (by decide) hg)
  clear hv hg hown hm2 hru hm3 hr3 HM0 HR0 HF0 HMW HRW
  have hHeld2 : (show World → Prop from fun W1 => W1.heap[b]? = some (.cells #[tv, .int .i64 tol, .slice (some ⟨eg, 0, none⟩) ex.length ec, .map (some m1), .map (some m2), .slice PA ps.length pc] 82 (0, 0)) ∧ W1.heap[c]? = some (.cells (faceC f) 68 (0, 0)) ∧ MapIs W1 m2 (ws.map kwF)) _ := ⟨HB2.out.book, HF2.out, HB2.out.mW⟩
  refine hK.out _ _ (Or.inr hHeld2) (fun _ => ?_)
  clear hK K hHeld
  try clear hb
  have hHeld := hHeld2
  clear hHeld2
  try simp only [Act.put, List.setIfInBounds_toArray, List.set_cons_zero, List.set_cons_succ]
  refine wpAnyE_ready (rs := [15]) (by kernel_rfl) (by simp) ?_
  refine AllReadyE.cons (o := ({ dst := none, op := Op.mapUpdate 78 (Operand.tmp 166) (Operand.tmp 167) (Operand.tmp 177), type := 0, pos := "match.go:147", after := #[{ on := 3, ground := Ground.data }, { on := 4, ground := Ground.data }, { on := 14, ground := Ground.data }, { on := 14, ground := Ground.chain }, { on := 0, ground := Ground.phase }, { on := 1, ground := Ground.phase }, { on := 2, ground := Ground.phase }, { on := 3, ground := Ground.phase }, { on := 4, ground := Ground.phase }, { on := 5, ground := Ground.phase }, { on := 6, ground := Ground.phase }, { on := 7, ground := Ground.phase }, { on := 8, ground := Ground.phase }, { on := 9, ground := Ground.phase }, { on := 10, ground := Ground.phase }, { on := 11, ground := Ground.phase }, { on := 12, ground := Ground.phase }, { on := 13, ground := Ground.phase }, { on := 14, ground := Ground.phase }], guard := none } : Oper)) rfl (fun K hK => ?_) AllReadyE.nil
  rw [if_pos (by rfl)]
  refine wp_mapUpdate_known 78 (.tmp 166) (.tmp 167) (.tmp 177) rfl (.map (some m2)) (keyF f) v' rfl rfl rfl HRU.out ?_
  refine hK.out _ _ (Or.inl ⟨15, by simp, by kernel_rfl⟩) (fun _ => ?_)
  clear hK K
  try clear hHeld
  try clear hb
  try simp only [Act.put, List.setIfInBounds_toArray, List.set_cons_zero, List.set_cons_succ]
  refine wpAnyE_done (by kernel_rfl) ?_ _
  generalize setBlock W2 m2 o = W3 at HM3 HR3 ⊢
  clear HB2 HRU HF2 HFF LF HWW HI hi63 hwr
  have c5 : W3.cell? ⟨b, 5, none⟩ = some (.slice PA ps.length pc) := cell_of_row W3 b 5 _ _ _ HM3.out.book
  have f5 : W3.frozen? ⟨b, 5, none⟩ = false := row_free HM3.out.book 5
  have hbW := HM3.out.book
  have hbs : b < W3.heap.size := (Array.getElem?_eq_some_iff.1 hbW).1
  clear hbW
  go_upto_region 29 with fail
  have HM4 := Lib.hid (HM3.out.grow (bl_alloc (bl_refl W3) (.cells #[.int .i64 (d : Int), .int .i64 (r : Int), .int .i64 am, .bool false] 97)))
  have HR4 := Lib.hid (HR3.out.grow (bl_alloc (bl_refl W3) (.cells #[.int .i64 (d : Int), .int .i64 (r : Int), .int .i64 am, .bool false] 97)))
  have HC4 := Lib.hid (heap_alloc_new W3 (.cells #[.int .i64 (d : Int), .int .i64 (r : Int), .int .i64 am, .bool false] 97))
  clear HM3 HR3
  go_upto_region 30 with (at_builtin; generalize W3.alloc (.cells #[.int .i64 (d : Int), .int .i64 (r : Int), .int .i64 am, .bool false] 97) = W4 at HM4 HR4 HC4 ⊢; generalize W3.heap.size = N4 at HC4 ⊢; refine wpList_append_new rfl (.tmp 187) (.tmp 193) 80 rfl 0 97 i0 (.agg #[.int .i64 0, .int .i64 0, .int .i64 0, .bool false]) 4 32 Tryz.underlying80 hi0 hz0 hz1 hz2 rfl (by decide) (.slice PA ps.length pc) ps.length (ps.flatMap prC) rfl HM4.out.rP ⟨N4, 0, none⟩ 1 1 [.int .i64 (d : Int), .int .i64 (r : Int), .int .i64 am, .bool false] rfl rfl (cells_four HC4.out) (by simp [Value.oneCell']) ?h63 (by have := HPL.out; omega) (Nat.zero_le _) (by decide) ?_; (case h63 => have := HPL.out; unfold maxLen; omega); intro pv' W5 hown hgrow hnew; obtain ⟨PB, pd, rfl⟩ := ow_slice hown; have hown2 := own_prs (q := Pr.mk d r am false) hown; have HM5 := Lib.hid (HM4.out.pairs hgrow (.slice PB (ps.length + 1) pd) (ps ++ [Pr.mk d r am false]) hown2 (inF_of_new hnew HM4.out.iP HM4.out.low.size)); have HR5 := Lib.hid (HR4.out.row HM4.out.rP (by decide) hgrow); clear hown hgrow hnew hown2 HM4 HR4 HC4; have c5 : W5.cell? ⟨b, 5, none⟩ = some (.slice PA ps.length pc) := cell_of_row W5 b 5 _ _ _ HM5.out.book; have f5 : W5.frozen? ⟨b, 5, none⟩ = false := row_free HM5.out.book 5)
  have HM6 : Hid (BkM F w (W5.setCell ⟨b, 5, none⟩ (.slice PB (ps.length + 1) pd)) b tv (.slice (some ⟨eg, 0, none⟩) ex.length ec) (.slice PB (ps.length + 1) pd) m1 m2 ((ws.set j (q.1, v', q.2.2.eraseIdx i)).map kwF) #[tv, .int .i64 tol, .slice (some ⟨eg, 0, none⟩) ex.length ec, .map (some m1), .map (some m2), .slice PB (ps.length + 1) pd] zs nm ex (ps ++ [Pr.mk d r am false])) := Lib.hid (HM5.out.cell 5 (.slice PB (ps.length + 1) pd))
  have HR6 := Lib.hid (HR5.out.other HM5.out.book (by decide) (gb_cell W5 ⟨b, 5, none⟩ (.slice PB (ps.length + 1) pd)))
  clear HM5 HR5 c5 f5
  generalize W5.setCell ⟨b, 5, none⟩ (.slice PB (ps.length + 1) pd) = W6 at HM6 HR6 ⊢
  have hdI : (d : Int) < (ex.length : Int) := by have := HD.out; omega
  have hrI : (r : Int) < (ex.length : Int) := by have := HRR.out; omega
  have HB6 := Lib.hid HM6.out.drew.book
  have HM7 := Lib.hid HM6.out.drew
  have HR7 := Lib.hid HR6.out.drew
  clear HM6 HR6
  refine wp_region_heldE (S := fun W1 => W1.heap[b]? = some (.cells #[tv, .int .i64 tol, .slice (some ⟨eg, 0, none⟩) ex.length ec, .map (some m1), .map (some m2), .slice PB (ps.length + 1) pd] 82 (0, 0))) (ds := [17]) (by kernel_rfl) (HB6.out) (fun hHeld => ?_)
  refine wpAnyE_take (i := 0) (oi := ({ dst := some 197, op := Op.move (Operand.tmp 0), type := 33, pos := "match.go:150", after := #[], guard := none } : Oper)) (v := ?_) rfl (by kernel_rfl) (by kernel_rfl) (by kernel_rfl) (by kernel_rfl) (fun _ _ _ h => HQP.out _ _ _ _ h rfl) (Or.inl ⟨by rfl, ?_⟩) hHeld ?_
  rotate_left
  · intro w' hSw; (try dsimp only at hSw); go_simp <;> with_reducible rfl
  try simp only [Act.put, List.setIfInBounds_toArray, List.set_cons_zero, List.set_cons_succ]
  refine wpAnyE_take (i := 1) (oi := ({ dst := some 198, op := Op.nilCheck (Operand.tmp 197), type := 0, pos := "match.go:150", after := #[{ on := 0, ground := Ground.data }], guard := none } : Oper)) (v := ?_) rfl (by kernel_rfl) (by kernel_rfl) (by kernel_rfl) (by kernel_rfl) (fun _ _ _ h => HQP.out _ _ _ _ h rfl) (Or.inl ⟨by rfl, ?_⟩) hHeld ?_
  rotate_left
  · intro w' hSw; (try dsimp only at hSw); go_simp <;> with_reducible rfl
  try simp only [Act.put, List.setIfInBounds_toArray, List.set_cons_zero, List.set_cons_succ]
  refine wpAnyE_take (i := 2) (oi := ({ dst := some 199, op := Op.fieldAddr 82 (Operand.tmp 198) 2, type := 0, pos := "match.go:150", after := #[{ on := 1, ground := Ground.data }], guard := none } : Oper)) (v := ?_) rfl (by kernel_rfl) (by kernel_rfl) (by kernel_rfl) (by kernel_rfl) (fun _ _ _ h => HQP.out _ _ _ _ h rfl) (Or.inl ⟨by rfl, ?_⟩) hHeld ?_
  rotate_left
  · intro w' hSw; (try dsimp only at hSw); go_simp <;> with_reducible rfl
  try simp only [Act.put, List.setIfInBounds_toArray, List.set_cons_zero, List.set_cons_succ]
  refine wpAnyE_take (i := 3) (oi := ({ dst := some 200, op := Op.load 79 (Operand.tmp 199), type := 79, pos := "match.go:150", after := #[{ on := 2, ground := Ground.data }], guard := none } : Oper)) (v := ?_) rfl (by kernel_rfl) (by kernel_rfl) (by kernel_rfl) (by kernel_rfl) (fun _ _ _ h => HQP.out _ _ _ _ h rfl) (Or.inl ⟨by rfl, ?_⟩) hHeld ?_
  rotate_left
  · intro w' hSw; (try dsimp only at hSw); have hcf := cell_of_row w' b 2 _ _ _ hSw; go_simp <;> with_reducible rfl
  try simp only [Act.put, List.setIfInBounds_toArray, List.set_cons_zero, List.set_cons_succ]
  refine wpAnyE_take (i := 4) (oi := ({ dst := some 201, op := Op.move (Operand.tmp 16), type := 3, pos := "match.go:150", after := #[], guard := none } : Oper)) (v := ?_) rfl (by kernel_rfl) (by kernel_rfl) (by kernel_rfl) (by kernel_rfl) (fun _ _ _ h => HQP.out _ _ _ _ h rfl) (Or.inl ⟨by rfl, ?_⟩) hHeld ?_
  rotate_left
  · intro w' hSw; (try dsimp only at hSw); go_simp <;> with_reducible rfl
  try simp only [Act.put, List.setIfInBounds_toArray, List.set_cons_zero, List.set_cons_succ]
  refine wpAnyE_take (i := 5) (oi := ({ dst := some 202, op := Op.move (Operand.tmp 0), type := 33, pos := "match.go:150", after := #[], guard := none } : Oper)) (v := ?_) rfl (by kernel_rfl) (by kernel_rfl) (by kernel_rfl) (by kernel_rfl) (fun _ _ _ h => HQP.out _ _ _ _ h rfl) (Or.inl ⟨by rfl, ?_⟩) hHeld ?_
  rotate_left
  · intro w' hSw; (try dsimp only at hSw); go_simp <;> with_reducible rfl
  try simp only [Act.put, List.setIfInBounds_toArray, List.set_cons_zero, List.set_cons_succ]
  refine wpAnyE_take (i := 6) (oi := ({ dst := some 203, op := Op.nilCheck (Operand.tmp 202), type := 0, pos := "match.go:150", after := #[{ on := 5, ground := Ground.data }], guard := none } : Oper)) (v := ?_) rfl (by kernel_rfl) (by kernel_rfl) (by kernel_rfl) (by kernel_rfl) (fun _ _ _ h => HQP.out _ _ _ _ h rfl) (Or.inl ⟨by rfl, ?_⟩) hHeld ?_
  rotate_left
  · intro w' hSw; (try dsimp only at hSw); go_simp <;> with_reducible rfl
  try simp only [Act.put, List.setIfInBounds_toArray, List.set_cons_zero, List.set_cons_succ]
  refine wpAnyE_take (i := 7) (oi := ({ dst := some 204, op := Op.fieldAddr 82 (Operand.tmp 203) 2, type := 0, pos := "match.go:150", after := #[{ on := 6, ground := Ground.data }], guard := none } : Oper)) (v := ?_) rfl (by kernel_rfl) (by kernel_rfl) (by kernel_rfl) (by kernel_rfl) (fun _ _ _ h => HQP.out _ _ _ _ h rfl) (Or.inl ⟨by rfl, ?_⟩) hHeld ?_
  rotate_left
  · intro w' hSw; (try dsimp only at hSw); go_simp <;> with_reducible rfl
  try simp only [Act.put, List.setIfInBounds_toArray, List.set_cons_zero, List.set_cons_succ]
  refine wpAnyE_take (i := 8) (oi := ({ dst := some 205, op := Op.load 79 (Operand.tmp 204), type := 79, pos := "match.go:150", after := #[{ on := 7, ground := Ground.data }], guard := none } : Oper)) (v := ?_) rfl (by kernel_rfl) (by kernel_rfl) (by kernel_rfl) (by kernel_rfl) (fun _ _ _ h => HQP.out _ _ _ _ h rfl) (Or.inl ⟨by rfl, ?_⟩) hHeld ?_
  rotate_left
  · intro w' hSw; (try dsimp only at hSw); have hcf := cell_of_row w' b 2 _ _ _ hSw; go_simp <;> with_reducible rfl
  try simp only [Act.put, List.setIfInBounds_toArray, List.set_cons_zero, List.set_cons_succ]
  refine wpAnyE_take (i := 9) (oi := ({ dst := some 206, op := Op.move (Operand.tmp 17), type := 3, pos := "match.go:150", after := #[{ on := 14, ground := Ground.gcOnly Departure.lateStores }], guard := none } : Oper)) (v := ?_) rfl (by kernel_rfl) (by kernel_rfl) (by kernel_rfl) (by kernel_rfl) (fun _ _ _ h => HQP.out _ _ _ _ h rfl) (Or.inl ⟨by rfl, ?_⟩) hHeld ?_
  rotate_left
  · intro w' hSw; (try dsimp only at hSw); go_simp <;> with_reducible rfl
  try simp only [Act.put, List.setIfInBounds_toArray, List.set_cons_zero, List.set_cons_succ]
  refine wpAnyE_take (i := 10) (oi := ({ dst := some 207, op := Op.move (Operand.tmp 20), type := 3, pos := "match.go:150", after := #[], guard := none } : Oper)) (v := ?_) rfl (by kernel_rfl) (by kernel_rfl) (by kernel_rfl) (by kernel_rfl) (fun _ _ _ h => HQP.out _ _ _ _ h rfl) (Or.inl ⟨by rfl, ?_⟩) hHeld ?_
  rotate_left
  · intro w' hSw; (try dsimp only at hSw); go_simp <;> with_reducible rfl
  try simp only [Act.put, List.setIfInBounds_toArray, List.set_cons_zero, List.set_cons_succ]
  refine wpAnyE_take (i := 11) (oi := ({ dst := some 208, op := Op.move (Operand.tmp 20), type := 3, pos := "match.go:150", after := #[{ on := 14, ground := Ground.gcOnly Departure.lateStores }], guard := none } : Oper)) (v := ?_) rfl (by kernel_rfl) (by kernel_rfl) (by kernel_rfl) (by kernel_rfl) (fun _ _ _ h => HQP.out _ _ _ _ h rfl) (Or.inl ⟨by rfl, ?_⟩) hHeld ?_
  rotate_left
  · intro w' hSw; (try dsimp only at hSw); go_simp <;> with_reducible rfl
  try simp only [Act.put, List.setIfInBounds_toArray, List.set_cons_zero, List.set_cons_succ]
  refine wpAnyE_take (i := 12) (oi := ({ dst := some 209, op := Op.indexAddr 79 (Operand.tmp 200) (Operand.tmp 201), type := 0, pos := "match.go:150", after := #[{ on := 3, ground := Ground.data }, { on := 4, ground := Ground.data }, { on := 0, ground := Ground.phase }, { on := 1, ground := Ground.phase }, { on := 2, ground := Ground.phase }, { on := 3, ground := Ground.phase }, { on := 4, ground := Ground.phase }, { on := 5, ground := Ground.textOnly Departure.lateStores }, { on := 6, ground := Ground.textOnly Departure.lateStoresUnsure }, { on := 7, ground := Ground.textOnly Departure.lateStoresUnsure }, { on := 8, ground := Ground.phase }, { on := 9, ground := Ground.textOnly Departure.lateStores }, { on := 10, ground := Ground.phase }, { on := 11, ground := Ground.textOnly Departure.lateStores }], guard := none } : Oper)) (v := ?_) rfl (by kernel_rfl) (by kernel_rfl) (by kernel_rfl) (by kernel_rfl) (fun _ _ _ h => HQP.out _ _ _ _ h rfl) (Or.inl ⟨by rfl, ?_⟩) hHeld ?_
  rotate_left
  · intro w' hSw; (try dsimp only at hSw); go_simp <;> with_reducible rfl
  try simp only [Act.put, List.setIfInBounds_toArray, List.set_cons_zero, List.set_cons_succ]
  refine wpAnyE_take (i := 13) (oi := ({ dst := some 210, op := Op.fieldAddr 93 (Operand.tmp 209) 1, type := 0, pos := "match.go:150", after := #[{ on := 12, ground := Ground.data }, { on := 0, ground := Ground.phase }, { on := 1, ground := Ground.phase }, { on := 2, ground := Ground.phase }, { on := 3, ground := Ground.phase }, { on := 4, ground := Ground.phase }, { on := 5, ground := Ground.textOnly Departure.lateStores }, { on := 6, ground := Ground.textOnly Departure.lateStoresUnsure }, { on := 7, ground := Ground.textOnly Departure.lateStoresUnsure }, { on := 8, ground := Ground.phase }, { on := 9, ground := Ground.textOnly Departure.lateStores }, { on := 10, ground := Ground.phase }, { on := 11, ground := Ground.textOnly Departure.lateStores }], guard := none } : Oper)) (v := ?_) rfl (by kernel_rfl) (by kernel_rfl) (by kernel_rfl) (by kernel_rfl) (fun _ _ _ h => HQP.out _ _ _ _ h rfl) (Or.inl ⟨by rfl, ?_⟩) hHeld ?_
  rotate_left
  · intro w' hSw; (try dsimp only at hSw); go_simp <;> with_reducible rfl
  try simp only [Act.put, List.setIfInBounds_toArray, List.set_cons_zero, List.set_cons_succ]
  refine wpAnyE_ready (rs := [14]) (by kernel_rfl) (by simp) ?_
  refine AllReadyE.cons (o := ({ dst := none, op := Op.store 3 (Operand.tmp 210) (Operand.tmp 207), type := 0, pos := "match.go:150", after := #[{ on := 13, ground := Ground.data }, { on := 10, ground := Ground.data }, { on := 0, ground := Ground.phase }, { on := 1, ground := Ground.phase }, { on := 2, ground := Ground.phase }, { on := 3, ground := Ground.phase }, { on := 4, ground := Ground.phase }, { on := 5, ground := Ground.textOnly Departure.lateStores }, { on := 6, ground := Ground.textOnly Departure.lateStoresUnsure }, { on := 7, ground := Ground.textOnly Departure.lateStoresUnsure }, { on := 8, ground := Ground.phase }, { on := 9, ground := Ground.textOnly Departure.lateStores }, { on := 10, ground := Ground.phase }, { on := 11, ground := Ground.textOnly Departure.lateStores }], guard := none } : Oper)) rfl (fun K hK => ?_) AllReadyE.nil
  generalize W6.drew = W7 at HM7 HR7 hHeld ⊢
  obtain ⟨cc, cf⟩ := entCell_facts HM7.out rfl (k := 28) HD.out (by decide)
  have cc2 : W7.cell? ⟨eg, d * 31 + 28, none⟩ = some (.int .i64 (ex.getD d ent0).pair) := cc
  clear cc
  go_simp
  obtain ⟨hm8, hg8⟩ := HM7.out.entCell rfl HD.out (k := 28) (by decide) (.int .i64 (ps.length : Int)) { ex.getD d ent0 with pair := (ps.length : Int) } (entC_set _ _) rfl rfl
  have HM8 := Lib.hid hm8
  have HR8 := Lib.hid (HR7.out.row HM7.out.rE (by decide) hg8)
  clear hm8 hg8 cc2 cf
  have HB8 := Lib.hid HM8.out.book
  clear HM7 HR7
  have hHeld2 : (show World → Prop from fun W1 => W1.heap[b]? = some (.cells #[tv, .int .i64 tol, .slice (some ⟨eg, 0, none⟩) ex.length ec, .map (some m1), .map (some m2), .slice PB (ps.length + 1) pd] 82 (0, 0))) _ := HB8.out
  refine hK.out _ _ (Or.inr hHeld2) (fun _ => ?_)
  clear hK K hHeld
  try clear hb
  have hHeld := hHeld2
  clear hHeld2
  try simp only [Act.put, List.setIfInBounds_toArray, List.set_cons_zero, List.set_cons_succ]
  refine wpAnyE_ready (rs := [15]) (by kernel_rfl) (by simp) ?_
  refine AllReadyE.cons (o := ({ dst := some 211, op := Op.indexAddr 79 (Operand.tmp 205) (Operand.tmp 206), type := 0, pos := "match.go:150", after := #[{ on := 8, ground := Ground.data }, { on := 9, ground := Ground.data }, { on := 0, ground := Ground.phase }, { on := 1, ground := Ground.phase }, { on := 2, ground := Ground.phase }, { on := 3, ground := Ground.phase }, { on := 4, ground := Ground.phase }, { on := 5, ground := Ground.phase }, { on := 6, ground := Ground.phase }, { on := 7, ground := Ground.phase }, { on := 8, ground := Ground.phase }, { on := 9, ground := Ground.phase }, { on := 10, ground := Ground.phase }, { on := 11, ground := Ground.phase }, { on := 12, ground := Ground.phase }, { on := 13, ground := Ground.phase }, { on := 14, ground := Ground.phase }], guard := none } : Oper)) rfl (fun K hK => ?_) AllReadyE.nil
  go_simp
  have hHeld2 : (show World → Prop from fun W1 => W1.heap[b]? = some (.cells #[tv, .int .i64 tol, .slice (some ⟨eg, 0, none⟩) ex.length ec, .map (some m1), .map (some m2), .slice PB (ps.length + 1) pd] 82 (0, 0))) _ := hHeld
  refine hK.out _ _ (Or.inr hHeld2) (fun _ => ?_)
  clear hK K hHeld
  try clear hb
  have hHeld := hHeld2
  clear hHeld2
  try simp only [Act.put, List.setIfInBounds_toArray, List.set_cons_zero, List.set_cons_succ]
  refine wpAnyE_take (i := 16) (oi := ({ dst := some 212, op := Op.fieldAddr 93 (Operand.tmp 211) 1, type := 0, pos := "match.go:150", after := #[{ on := 15, ground := Ground.data }, { on := 0, ground := Ground.phase }, { on := 1, ground := Ground.phase }, { on := 2, ground := Ground.phase }, { on := 3, ground := Ground.phase }, { on := 4, ground := Ground.phase }, { on := 5, ground := Ground.phase }, { on := 6, ground := Ground.phase }, { on := 7, ground := Ground.phase }, { on := 8, ground := Ground.phase }, { on := 9, ground := Ground.phase }, { on := 10, ground := Ground.phase }, { on := 11, ground := Ground.phase }, { on := 12, ground := Ground.phase }, { on := 13, ground := Ground.phase }, { on := 14, ground := Ground.phase }], guard := none } : Oper)) (v := ?_) rfl (by kernel_rfl) (by kernel_rfl) (by kernel_rfl) (by kernel_rfl) (fun _ _ _ h => HQP.out _ _ _ _ h rfl) (Or.inl ⟨by rfl, ?_⟩) hHeld ?_
  rotate_left
  · intro w' hSw; (try dsimp only at hSw); go_simp <;> with_reducible rfl
  try simp only [Act.put, List.setIfInBounds_toArray, List.set_cons_zero, List.set_cons_succ]
  refine wpAnyE_ready (rs := [17]) (by kernel_rfl) (by simp) ?_
  refine AllReadyE.cons (o := ({ dst := none, op := Op.store 3 (Operand.tmp 212) (Operand.tmp 208), type := 0, pos := "match.go:150", after := #[{ on := 16, ground := Ground.data }, { on := 11, ground := Ground.data }, { on := 14, ground := Ground.chain }, { on := 0, ground := Ground.phase }, { on := 1, ground := Ground.phase }, { on := 2, ground := Ground.phase }, { on := 3, ground := Ground.phase }, { on := 4, ground := Ground.phase }, { on := 5, ground := Ground.phase }, { on := 6, ground := Ground.phase }, { on := 7, ground := Ground.phase }, { on := 8, ground := Ground.phase }, { on := 9, ground := Ground.phase }, { on := 10, ground := Ground.phase }, { on := 11, ground := Ground.phase }, { on := 12, ground := Ground.phase }, { on := 13, ground := Ground.phase }, { on := 14, ground := Ground.phase }], guard := none } : Oper)) rfl (fun K hK => ?_) AllReadyE.nil
  generalize W7.setCell ⟨eg, d * 31 + 28, none⟩ (.int .i64 (ps.length : Int)) = W8 at HM8 HR8 HB8 ⊢
  obtain ⟨cc, cf⟩ := entCell_facts HM8.out (by simp) (d := r) (k := 28) (by simpa using HRR.out) (by decide)
  have cc2 : W8.cell? ⟨eg, r * 31 + 28, none⟩ = some (.int .i64 ((ex.set d { ex.getD d ent0 with pair := (ps.length : Int) }).getD r ent0).pair) := cc
  clear cc hHeld
  go_simp
  obtain ⟨hm9, hg9⟩ := HM8.out.entCell (by simp) (d := r) (by simpa using HRR.out) (k := 28) (by decide) (.int .i64 (ps.length : Int)) { (ex.set d { ex.getD d ent0 with pair := (ps.length : Int) }).getD r ent0 with pair := (ps.length : Int) } (entC_set _ _) rfl rfl
  have HM9 := Lib.hid hm9
  have HR9 := Lib.hid (HR8.out.row HM8.out.rE (by decide) hg9)
  clear hm9 hg9 cc2 cf HM8 HR8 HB8
  refine hK.out _ _ (Or.inl ⟨17, by simp, by kernel_rfl⟩) (fun _ => ?_)
  clear hK K
  try clear hHeld
  try clear hb
  try simp only [Act.put, List.setIfInBounds_toArray, List.set_cons_zero, List.set_cons_succ]
  refine wpAnyE_done (by kernel_rfl) ?_ _
  generalize W8.setCell ⟨eg, r * 31 + 28, none⟩ (.int .i64 (ps.length : Int)) = W9 at HM9 HR9 ⊢
  have HEND := Lib.hid (fun T h1 h2 h3 => HP.out T W9 _ _ v' h1 h2 h3 HM9.out HR9.out)
  clear HM9 HR9 HP
  go_wp2
  exact HEND.out _ rfl rfl rfl
end Go.Proofs.YtphabkaiheplpaaGreatDoor
/- (*match.Book).Add from the look-up of who waits on. -/
set_option linter.unusedVariables false
set_option linter.unusedSimpArgs false
set_option maxRecDepth 100000
namespace Go.Proofs.YtphabkaiheplpaaGreatDoor
open Go.RowKit Go.Shelf Go.Maps
open Go.ChangeMaps (setBlock)

/-- Who waits under a face, as the program holds it. -/
theorem wait_list {F : Nat → Prop} {w W : World} {b : Nat} {tv ev pv : Value} {m1 m2 : Nat} {ws : List Wq} {C : Array Value} {zs : List ByteArray} {nm : List (Value × Value)} {es : List Ent} {ex : List Ent} {ps : List Pr}
    (HM : BkM F w W b tv ev pv m1 m2 (ws.map kwF) C zs nm ex ps) (HR : WsR F w.heap.size W ws) (HW : WsOk zs es ws) {f : Fc} (hf : f.wf) :
    ∃ (A : Option Addr) (cp : Nat), (∀ W', MapIs W' m2 (ws.map kwF) → (Instr.lookup 78 (.map (some m2)) (keyF f) false).run Tryz.prog W' = .ok (.slice A (wl zs es f).length cp) W') ∧ W.ownsRow 0 3 1 (.slice A (wl zs es f).length cp) (wl zs es f).length ((wl zs es f).map natV) ∧
      (0 < (wl zs es f).length → ∃ j : Nat, ∃ q : Wq, ws[j]? = some q ∧ sameFace q.1 f = true ∧ q.2.2 = wl zs es f) := by
  by_cases h : ∃ q ∈ ws, sameFace q.1 f = true
  · obtain ⟨q, hq, hs⟩ := h
    obtain ⟨j, hj, e⟩ := List.getElem_of_mem hq
    have hq2 : ws[j]? = some q := by rw [List.getElem?_eq_getElem hj, e]
    have hl : q.2.2 = wl zs es f := by rw [← HW.get f hf, wsGet_at HW.keys hq2 hs]
    have hrow := HR.rW q hq
    obtain ⟨A, cp, hv⟩ := ow_slice hrow
    rw [hv, hl] at hrow
    refine ⟨A, cp, fun W' hm => ?_, hrow, fun _ => ⟨j, q, hq2, hs, hl⟩⟩
    rw [wait_get hm HW hf hq2 hs, hv, hl]
  · have hab : ∀ q ∈ ws, sameFace q.1 f = false := fun q hq => by
      rw [← Bool.not_eq_true]
      exact fun hs => h ⟨q, hq, hs⟩
    have hl : wl zs es f = [] := by rw [← HW.get f hf, wsGet_none hab]
    rw [hl]
    exact ⟨none, 0, fun W' hm => wait_none hm HW hf hab, ow_nil _ _ _ _, fun h0 => absurd h0 (Nat.lt_irrefl 0)⟩
theorem entC_side (e : Ent) {j : Nat} {v : Value} (h : (sideC e.p e.x).toList[j]? = some v) : (entC e)[j]? = some v := by
  unfold entC
  rw [List.getElem?_append_left (List.getElem?_eq_some_iff.1 h).1]
  exact h
/-- One side out of the row of entries. -/
theorem load_ent {W : World} {base eg n ec : Nat} {es : List Ent} (h : W.ownsRow base 93 31 (.slice (some ⟨eg, 0, none⟩) n ec) n (es.flatMap entC)) (hn : es.length = n) {d : Nat} (hd : d < es.length) :
    (loadVar 28 ⟨eg, d * 31, none⟩).run Tryz.prog W = .ok (.agg (sideC (es.getD d ent0).p (es.getD d ent0).x)) W := by
  have hdesc := side_desc
  cases hu : Tryz.prog.underlying 28 with
  | none => rw [hu] at hdesc; cases hdesc
  | some dd =>
    rw [hu] at hdesc
    have hp := loadVar_part Tryz.prog W eg (d * 31) 28 (sideC (es.getD d ent0).p (es.getD d ent0).x).toList dd hu (by cases dd <;> simp_all) (by rw [side_size]; rfl) (fun j v hv => by
      have hj : j < 28 := (List.getElem?_eq_some_iff.1 hv).1
      rw [h.cellAt (d * 31 + j) (by omega), ents_at es d j hd (by omega)]
      exact entC_side _ hv)
    simpa using hp
/-- The deliverer's and the receiver's number. -/
def drOf (e : Ent) (n k : Nat) : Nat × Nat := if e.x.receive then (k, n) else (n, k)
theorem fitK_dr {zs : List ByteArray} {tol : Int} {es : List Ent} {e : Ent} {k : Nat} (hk : k < es.length) : fitK zs tol e (es.getD k ent0) = fitE ((es ++ [e]).getD (drOf e es.length k).1 ent0).p ((es ++ [e]).getD (drOf e es.length k).2 ent0).p ((es ++ [e]).getD (drOf e es.length k).1 ent0).x ((es ++ [e]).getD (drOf e es.length k).2 ent0).x zs tol := by
  unfold fitK drOf
  cases e.x.receive <;> simp only [Bool.false_eq_true, if_false, if_true, getD_append_new, getD_append_lt hk]
theorem find_step {L : List Nat} {p : Nat → Bool} {k kk : Nat} (h : (L.take k).find? p = none) (hk : L[k]? = some kk) (hp : p kk = false) : (L.take (k + 1)).find? p = none := by
  rw [List.take_add_one, hk, List.find?_append, h]
  simp [hp]
theorem find_here {L : List Nat} {p : Nat → Bool} {k kk : Nat} (h : (L.take k).find? p = none) (hk : L[k]? = some kk) (hp : p kk = true) : L.find? p = some kk := by
  rw [← List.take_append_drop k L, List.find?_append, h]
  obtain ⟨hl, rfl⟩ := List.getElem?_eq_some_iff.1 hk
  rw [List.drop_eq_getElem_cons hl, List.find?_cons_of_pos hp]
  rfl
theorem drOf_lt {es : List Ent} (e : Ent) {k : Nat} (hk : k < es.length) : (drOf e es.length k).1 < (es ++ [e]).length ∧ (drOf e es.length k).2 < (es ++ [e]).length := by
  unfold drOf
  cases e.x.receive <;> simp <;> omega
noncomputable def tail19 : Code := ((Tryz.f10.body.bind (fromR 19)).getD .skip)
/-- What a side brings along. -/
structure EntOk (e : Ent) : Prop where
  wf : e.x.wf
  p : I64 e.p
theorem fit_side (zs : List ByteArray) (tol : Int) (d r : Ent) (A : Option Addr) (c : Nat) (w : World) (hd : EntOk d) (hr : EntOk r) (ht : I64 tol) (h : RdT w A zs.length zs) (hsh : Short zs) (hn : zs.length ≤ 140737488351232) (hpw : PowT w) :
    Calls Tryz.prog 7 #[.agg (sideC d.p d.x), .agg (sideC r.p r.x), .slice A zs.length c, .int .i64 tol] w fun e w' => e = .returned (.tuple #[.int .i64 (fitE d.p r.p d.x r.x zs tol).1, .bool (fitE d.p r.p d.x r.x zs tol).2]) ∧ Below w.heap.size w w' :=
  fit_any d.p r.p d.x r.x A zs.length c zs tol w hd.p hr.p hd.wf hr.wf ht h hsh hn hpw
set_option maxHeartbeats 8000000 in
set_option maxRecDepth 1000000 in
theorem add_tail19 {F : Nat → Prop} {w W : World} {b a c sb : Nat} {tv ev pv : Value} {m1 m2 : Nat} {ws : List Wq} {zs : List ByteArray} {tol : Int} {nm : List (Value × Value)} {es : List Ent} {ps : List Pr} {e : Ent} (u1 u2 u4 u5 u6 u7 u8 u9 u10 u14 u15 u16 u17 u18 u19 u20 u21 u22 u23 u24 u25 u26 u27 u28 u29 u30 u31 u32 u33 u34 u35 u36 u37 u38 u39 u40 u41 u42 u43 u44 u45 u46 u47 u48 u49 u50 u51 u52 u53 u54 u55 u56 u57 u58 u59 u60 u61 u62 u63 u64 u65 u66 u67 u68 u69 u70 u71 u72 u73 u74 u75 u76 u77 u78 u79 u80 u81 u82 u83 u84 u85 u86 u87 u88 u89 u90 u91 u92 u93 u94 u95 u96 u97 u98 u99 u100 u101 u102 u103 u104 u105 u106 u107 u108 u109 u110 u111 u112 u113 u114 u115 u116 u117 u118 u119 u120 u121 u122 u123 u124 u125 u126 u127 u128 u129 u130 u131 u132 u133 u134 u135 u136 u137 u138 u139 u140 u141 u142 u143 u144 u145 u146 u147 u148 u149 u150 u151 u152 u153 u154 u155 u156 u157 u158 u159 u160 u161 u162 u163 u164 u165 u166 u167 u168 u169 u170 u171 u172 u173 u174 u175 u176 u177 u178 u179 u180 u181 u182 u183 u184 u185 u186 u187 u188 u189 u190 u191 u192 u193 u194 u195 u196 u197 u198 u199 u200 u201 u202 u203 u204 u205 u206 u207 u208 u209 u210 u211 u212 u213 u214 u215 u216 u217 u218 u219 u220 u221 u222 u223 u224 u225 u226 u227 : Value) {Φ : Ending → World → Prop}
    (HM : BkM F w W b tv ev pv m1 m2 (ws.map kwF) #[tv, .int .i64 tol, ev, .map (some m1), .map (some m2), pv] zs nm (es ++ [e]) ps) (HR : WsR F w.heap.size W ws) (HW : WsOk zs es ws) (ho : openB e = true) (hok : ∀ x ∈ es ++ [e], EntOk x) (hsh : Short zs) (ht : I64 tol) (hpw : PowT W)
    (hside : ∃ y : Nt, y.receive = e.x.receive ∧ W.heap[sb]? = some (.cells (sideC e.p y) 28 (0, 0)))
    (hface : W.heap[a]? = some (.cells (faceC (faceE e.p e.x zs)) 68 (0, 0))) (hother : W.heap[c]? = some (.cells (faceC (faceO e.p e.x zs)) 68 (0, 0)))
    (hel : es.length + 1 ≤ 1000000000000) (hzl : zs.length ≤ 140737488351232) (hpl : (ps.length + 1) * 32 ≤ 140737488355328)
    (post0 : firstK zs tol es e = none → ∀ (W' : World) (ws' : List Wq), BkM F w W' b tv ev pv m1 m2 (ws'.map kwF) #[tv, .int .i64 tol, ev, .map (some m1), .map (some m2), pv] zs nm (es ++ [e]) ps → WsR F w.heap.size W' ws' → WsOk zs (es ++ [e]) ws' → Φ (.returned (.tuple #[.int .i64 es.length, .int .i64 (-1), .nilIface])) W')
    (post1 : ∀ k, firstK zs tol es e = some k → ∀ (W' : World) (ev' pv' v' : Value) (j i : Nat) (q : Wq), ws[j]? = some q → sameFace q.1 (faceO e.p e.x zs) = true → q.2.2 = wl zs es (faceO e.p e.x zs) → q.2.2[i]? = some k →
      BkM F w W' b tv ev' pv' m1 m2 ((ws.set j (q.1, v', q.2.2.eraseIdx i)).map kwF) #[tv, .int .i64 tol, ev', .map (some m1), .map (some m2), pv'] zs nm (paired (es ++ [e]) (drOf e es.length k).1 (drOf e es.length k).2 ps.length) (ps ++ [Pr.mk (drOf e es.length k).1 (drOf e es.length k).2 (fitK zs tol e (es.getD k ent0)).1 false]) →
      WsR F w.heap.size W' (ws.set j (q.1, v', q.2.2.eraseIdx i)) → Φ (.returned (.tuple #[.int .i64 es.length, .int .i64 ps.length, .nilIface])) W') :
    Code.wp Tryz.prog tail19 (bodyPost Tryz.prog Tryz.f10 Φ) ⟨#[.pointer (some ⟨b, 0, none⟩), u1, u2, .pointer (some ⟨sb, 0, none⟩), u4, u5, u6, u7, u8, u9, u10, .int .i64 (es.length : Int), .pointer (some ⟨a, 0, none⟩), .pointer (some ⟨c, 0, none⟩), u14, u15, u16, u17, u18, u19, u20, u21, u22, u23, u24, u25, u26, u27, u28, u29, u30, u31, u32, u33, u34, u35, u36, u37, u38, u39, u40, u41, u42, u43, u44, u45, u46, u47, u48, u49, u50, u51, u52, u53, u54, u55, u56, u57, u58, u59, u60, u61, u62, u63, u64, u65, u66, u67, u68, u69, u70, u71, u72, u73, u74, u75, u76, u77, u78, u79, u80, u81, u82, u83, u84, u85, u86, u87, u88, u89, u90, u91, u92, u93, u94, u95, u96, u97, u98, u99, u100, u101, u102, u103, u104, u105, u106, u107, u108, u109, u110, u111, u112, u113, u114, u115, u116, u117, u118, u119, u120, u121, u122, u123, u124, u125, u126, u127, u128, u129, u130, u131, u132, u133, u134, u135, u136, u137, u138, u139, u140, u141, u142, u143, u144, u145, u146, u147, u148, u149, u150, u151, u152, u153, u154, u155, u156, u157, u158, u159, u160, u161, u162, u163, u164, u165, u166, u167, u168, u169, u170, u171, u172, u173, u174, u175, u176, u177, u178, u179, u180, u181, u182, u183, u184, u185, u186, u187, u188, u189, u190, u191, u192, u193, u194, u195, u196, u197, u198, u199, u200, u201, u202, u203, u204, u205, u206, u207, u208, u209, u210, u211, u212, u213, u214, u215, u216, u217, u218, u219, u220, u221, u222, u223, u224, u225, u226, u227], []⟩ W := by
  have hew : EntOk e := hok e (by simp)
  obtain ⟨y, hyr, hside⟩ := hside
  obtain ⟨EA, ec, hev⟩ := ow_slice HM.rE
  subst hev
  obtain ⟨eg, rfl⟩ := own_addr HM.rE (by simp)
  obtain ⟨TA, tc, hev, hrdt, _⟩ := RdT_of_own HM.rT
  subst hev
  have hfo := faceO_wf e.p e.x zs hew.wf hsh
  have hfe := faceE_wf e.p e.x zs hew.wf hsh
  obtain ⟨LA, lc, hlk, hlrow, hlq⟩ := wait_list HM HR HW hfo
  have hwl := wl_le zs es (faceO e.p e.x zs)
  have hwm : ∀ k ∈ wl zs es (faceO e.p e.x zs), k < es.length := fun k hk => (wl_lt hk).1
  rw [firstK_wl] at post0
  simp only [firstK_wl] at post1
  generalize hL : wl zs es (faceO e.p e.x zs) = L at *
  have HL := Lib.hid hL
  clear hL
  generalize hex : es ++ [e] = ex at *
  have HM0 := Lib.hid HM.drew
  have HMW := Lib.hid HM
  have HRW := Lib.hid HR
  have HWW := Lib.hid HW
  have HLK := Lib.hid hlk
  have HLR := Lib.hid hlrow
  have HLQ := Lib.hid hlq
  have HF0 : Hid (W.drew.heap[c]? = some (.cells (faceC (faceO e.p e.x zs)) 68 (0, 0))) := Lib.hid hother
  have HFA := Lib.hid hface
  have HFC := Lib.hid hother
  have HSB := Lib.hid hside
  have LF := Lib.hid (fun W1 h => load_face (faceO e.p e.x zs) W1 c 68 h)
  have HP0 := Lib.hid post0
  have HP1 := Lib.hid post1
  have HPW := Lib.hid hpw
  have HOK := Lib.hid hok
  have HSH := Lib.hid hsh
  have HT := Lib.hid ht
  have HOO := Lib.hid ho
  have HEL := Lib.hid hel
  have HZL := Lib.hid hzl
  have HPL := Lib.hid hpl
  have HWL := Lib.hid hwl
  have HWM := Lib.hid hwm
  have HFO := Lib.hid hfo
  have HFE := Lib.hid hfe
  clear HM HR HW hlk hlrow hlq hother hface hside post0 post1 hpw hok hsh ht ho hel hzl hpl hwl hwm hfo hfe hew
  conv => arg 2; whnf
  dsimp only
  go_upto_region 19 with fail
  refine wp_region_heldE (S := fun W1 => W1.heap[b]? = some (.cells #[.slice TA zs.length tc, .int .i64 tol, .slice (some ⟨eg, 0, none⟩) ex.length ec, .map (some m1), .map (some m2), pv] 82 (0, 0)) ∧ W1.heap[c]? = some (.cells (faceC (faceO e.p e.x zs)) 68 (0, 0)) ∧ MapIs W1 m2 (ws.map kwF)) (ds := []) (by kernel_rfl) (⟨HM0.out.book, HF0.out, HM0.out.mW⟩) (fun hHeld => ?_)
  refine wpAnyE_take (i := 0) (oi := ({ dst := some 114, op := Op.move (Operand.tmp 0), type := 33, pos := "match.go:138", after := #[], guard := none } : Oper)) (v := ?_) rfl (by kernel_rfl) (by kernel_rfl) (by kernel_rfl) (by kernel_rfl) (fun _ _ _ h => h) (Or.inl ⟨by rfl, ?_⟩) hHeld ?_
  rotate_left
  · intro w' hSw; (try dsimp only at hSw); go_simp <;> with_reducible rfl
  try simp only [Act.put, List.setIfInBounds_toArray, List.set_cons_zero, List.set_cons_succ]
  refine wpAnyE_take (i := 1) (oi := ({ dst := some 115, op := Op.nilCheck (Operand.tmp 114), type := 0, pos := "match.go:138", after := #[{ on := 0, ground := Ground.data }], guard := none } : Oper)) (v := ?_) rfl (by kernel_rfl) (by kernel_rfl) (by kernel_rfl) (by kernel_rfl) (fun _ _ _ h => h) (Or.inl ⟨by rfl, ?_⟩) hHeld ?_
  rotate_left
  · intro w' hSw; (try dsimp only at hSw); go_simp <;> with_reducible rfl
  try simp only [Act.put, List.setIfInBounds_toArray, List.set_cons_zero, List.set_cons_succ]
  refine wpAnyE_take (i := 2) (oi := ({ dst := some 116, op := Op.fieldAddr 82 (Operand.tmp 115) 4, type := 0, pos := "match.go:138", after := #[{ on := 1, ground := Ground.data }], guard := none } : Oper)) (v := ?_) rfl (by kernel_rfl) (by kernel_rfl) (by kernel_rfl) (by kernel_rfl) (fun _ _ _ h => h) (Or.inl ⟨by rfl, ?_⟩) hHeld ?_
  rotate_left
  · intro w' hSw; (try dsimp only at hSw); go_simp <;> with_reducible rfl
  try simp only [Act.put, List.setIfInBounds_toArray, List.set_cons_zero, List.set_cons_succ]
  refine wpAnyE_take (i := 3) (oi := ({ dst := some 117, op := Op.load 78 (Operand.tmp 116), type := 78, pos := "match.go:138", after := #[{ on := 2, ground := Ground.data }], guard := none } : Oper)) (v := ?_) rfl (by kernel_rfl) (by kernel_rfl) (by kernel_rfl) (by kernel_rfl) (fun _ _ _ h => h) (Or.inl ⟨by rfl, ?_⟩) hHeld ?_
  rotate_left
  · intro w' hSw; (try dsimp only at hSw); have hcf := cell_of_row w' b 4 _ _ _ hSw.1; go_simp <;> with_reducible rfl
  try simp only [Act.put, List.setIfInBounds_toArray, List.set_cons_zero, List.set_cons_succ]
  refine wpAnyE_take (i := 4) (oi := ({ dst := some 118, op := Op.load 68 (Operand.tmp 13), type := 68, pos := "match.go:138", after := #[], guard := none } : Oper)) (v := .agg (faceC (faceO e.p e.x zs))) rfl (by kernel_rfl) (by kernel_rfl) (by kernel_rfl) (by kernel_rfl) (fun _ _ _ h => h) (yieldsIf_load_known (by rfl) 68 (Operand.tmp 13) rfl ⟨c, 0, none⟩ (.agg (faceC (faceO e.p e.x zs))) rfl (fun w' h => LF.out w' h.2.1)) hHeld ?_
  try simp only [Act.put, List.setIfInBounds_toArray, List.set_cons_zero, List.set_cons_succ]
  refine wpAnyE_take (i := 5) (oi := ({ dst := some 119, op := Op.lookup 78 (Operand.tmp 117) (Operand.tmp 118) false, type := 94, pos := "match.go:138", after := #[{ on := 3, ground := Ground.data }, { on := 4, ground := Ground.data }], guard := none } : Oper)) (v := .slice LA L.length lc) rfl (by kernel_rfl) (by kernel_rfl) (by kernel_rfl) (by kernel_rfl) (fun _ _ _ h => h) (yields_lookup (by rfl) 78 (.tmp 117) (.tmp 118) false rfl (.map (some m2)) (keyF (faceO e.p e.x zs)) _ rfl rfl (fun w' h => HLK.out w' h.2.2)) hHeld ?_
  try simp only [Act.put, List.setIfInBounds_toArray, List.set_cons_zero, List.set_cons_succ]
  refine wpAnyE_take (i := 6) (oi := ({ dst := some 120, op := Op.call { callee := Callee.builtin Builtin.len, args := #[Operand.tmp 119], argTypes := #[94] }, type := 3, pos := "match.go:138", after := #[{ on := 5, ground := Ground.data }], guard := none } : Oper)) (v := ?_) rfl (by kernel_rfl) (by kernel_rfl) (by kernel_rfl) (by kernel_rfl) (fun _ _ _ h => h) (Or.inl ⟨by rfl, ?_⟩) hHeld ?_
  rotate_left
  · intro w' hSw; (try dsimp only at hSw); go_simp <;> with_reducible rfl
  try simp only [Act.put, List.setIfInBounds_toArray, List.set_cons_zero, List.set_cons_succ]
  refine wpAnyE_take (i := 7) (oi := ({ dst := some 121, op := Op.move (Operand.const (Value.int IntKind.i64 0)), type := 3, pos := "match.go:138", after := #[], guard := none } : Oper)) (v := ?_) rfl (by kernel_rfl) (by kernel_rfl) (by kernel_rfl) (by kernel_rfl) (fun _ _ _ h => h) (Or.inl ⟨by rfl, ?_⟩) hHeld ?_
  rotate_left
  · intro w' hSw; (try dsimp only at hSw); go_simp <;> with_reducible rfl
  try simp only [Act.put, List.setIfInBounds_toArray, List.set_cons_zero, List.set_cons_succ]
  refine wpAnyE_done (by kernel_rfl) ?_ _
  have hb0 : Hid (Below W.drew.heap.size W.drew W.drew) := Lib.hid (bl_refl _)
  have HR0 := Lib.hid HRW.out.drew
  have HWX := Lib.hid (HPW.out.below (bl_drew (bl_refl W)) : PowT W.drew)
  have HSB0 : Hid (W.drew.heap[sb]? = some (.cells (sideC e.p y) 28 (0, 0))) := Lib.hid HSB.out
  have HFA0 : Hid (W.drew.heap[a]? = some (.cells (faceC (faceE e.p e.x zs)) 68 (0, 0))) := Lib.hid HFA.out
  have HLR0 : Hid (W.drew.ownsRow 0 3 1 (.slice LA L.length lc) L.length (L.map natV)) := Lib.hid (ow_none HLR.out (gb_below (bl_drew (bl_refl W))))
  clear HMW HRW HSB HFA HFC HPW HLR HLK
  have HRDT : Hid (RdT W.drew TA zs.length zs) := Lib.hid (RdT.below hrdt (bl_drew (bl_refl W)))
  have HBK := Lib.hid (fun W1 (h : Below W.drew.heap.size W.drew W1) => blk_none HM0.out.book (gb_below h))
  clear hrdt
  generalize W.drew = W0 at HRDT HBK HM0 HR0 HWX HSB0 HFA0 HLR0 HF0 hb0 hHeld ⊢
  go_wp2
  rename_i hK33
  go_loopg [14, 15, 16, 17, 18, 19, 121] L.length (fun g v14 v15 v16 v17 v18 v19 vi wr => ∃ k : Nat, vi = .int .i64 k ∧ k ≤ L.length ∧ L.length - k ≤ g ∧ Hid (Below W0.heap.size W0 wr) ∧ Hid ((L.take k).find? (fun k => (fitK zs tol e (es.getD k ent0)).2) = none))
  case atStart => exact ⟨0, rfl, by omega, by omega, hb0, Lib.hid rfl⟩
  case round =>
    obtain ⟨k, rfl, hk, hg, HB, HN⟩ := hrel
    by_cases hlt : k < L.length
    · have hltz : (k : Int) < (L.length : Int) := by omega
      have hk63 : (k : Int) + 1 ≤ 2000000000000 := by
        have := HEL.out
        have := HWL.out
        omega
      have HR1 := Lib.hid (ow_none HLR0.out (gb_below HB.out))
      obtain ⟨lg, rfl⟩ := own_addr HR1.out (by omega)
      have cL : wr.cell? ⟨lg, k, none⟩ = some (.int .i64 ((L.getD k 0 : Nat) : Int)) := by rw [HR1.out.cellAt k (by omega)]; simp [hlt, natV, List.getD]
      have hLk : L[k]? = some (L.getD k 0) := by simp [hlt, List.getD]
      have hkk : L.getD k 0 < es.length := HWM.out _ (List.mem_of_getElem? hLk)
      have HLk := Lib.hid hLk
      have HKK := Lib.hid hkk
      have cS : wr.cell? ⟨sb, 4, none⟩ = some (.bool e.x.receive) := by
        rw [← hyr]
        exact cell_of_row wr sb 4 _ _ _ ((HB.out.block sb (Array.getElem?_eq_some_iff.1 HSB0.out).1).trans HSB0.out)
      clear HR1 hLk hkk
      generalize L.getD k 0 = kk at cL HLk HKK
      go_upto_if 130 with fail
      go_cut [16, 17] (fun v16 v17 wx => v16 = .int .i64 ((drOf e es.length kk).1 : Int) ∧ v17 = .int .i64 ((drOf e es.length kk).2 : Int) ∧ Hid (Below W0.heap.size W0 wx))
      case first =>
        have HB1 := Lib.hid HB.out
        generalize hrv : e.x.receive = rcv at *
        cases rcv <;> (go_wp2; go_meet; exact ⟨by simp [drOf, hrv], by simp [drOf, hrv], HB⟩)
      case rest =>
        obtain ⟨rfl, rfl, HB2⟩ := hcut
        clear HB cS cL
        have HFK := Lib.hid (fitK_dr (zs := zs) (tol := tol) (e := e) HKK.out)
        obtain ⟨hd, hr⟩ := drOf_lt e HKK.out
        rw [hex] at HFK hd hr
        generalize hdd : (drOf e es.length kk).1 = d at HFK hd ⊢
        generalize hrr : (drOf e es.length kk).2 = r at HFK hr ⊢
        have hdI : (d : Int) < (ex.length : Int) := by omega
        have hrI : (r : Int) < (ex.length : Int) := by omega
        have HD := Lib.hid hd
        have HR := Lib.hid hr
        have HDD := Lib.hid hdd
        have HRR := Lib.hid hrr
        have HFIT := Lib.hid (fun (w' : World) (h : Below W0.heap.size W0 w') => fit_side zs tol (ex.getD d ent0) (ex.getD r ent0) TA tc w' (HOK.out _ (getD_mem hd)) (HOK.out _ (getD_mem hr)) HT.out (HRDT.out.below h) HSH.out HZL.out (HWX.out.below h))
        rw [← HFK.out] at HFIT
        clear hd hr hdd hrr HFK
        have HLD := Lib.hid (fun (w' : World) (h : Below W0.heap.size W0 w') => load_ent (ow_none HM0.out.rE (gb_below h)) rfl HD.out)
        have HLE := Lib.hid (fun (w' : World) (h : Below W0.heap.size W0 w') => load_ent (ow_none HM0.out.rE (gb_below h)) rfl HR.out)
        generalize ex.getD d ent0 = xd at HFIT HLD
        generalize ex.getD r ent0 = xr at HFIT HLE
        generalize hfk : fitK zs tol e (es.getD kk ent0) = fk at HFIT
        have HFKK := Lib.hid hfk
        clear hfk
        obtain ⟨am, ok⟩ := fk
        go_upto_region 25 with fail
        refine wp_region_heldE (S := fun W1 => Below W0.heap.size W0 W1) (ds := []) (by kernel_rfl) (bl_then HB2.out (bl_drew (bl_refl _))) (fun hHeld => ?_)
        refine wpAnyE_take (i := 0) (oi := ({ dst := some 134, op := Op.move (Operand.tmp 0), type := 33, pos := "match.go:143", after := #[], guard := none } : Oper)) (v := ?_) rfl (by kernel_rfl) (by kernel_rfl) (by kernel_rfl) (by kernel_rfl) (fun _ _ _ h => h) (Or.inl ⟨by rfl, ?_⟩) hHeld ?_
        rotate_left
        · intro w' hSw; (try dsimp only at hSw); go_simp <;> with_reducible rfl
        try simp only [Act.put, List.setIfInBounds_toArray, List.set_cons_zero, List.set_cons_succ]
        refine wpAnyE_take (i := 1) (oi := ({ dst := some 135, op := Op.nilCheck (Operand.tmp 134), type := 0, pos := "match.go:143", after := #[{ on := 0, ground := Ground.data }], guard := none } : Oper)) (v := ?_) rfl (by kernel_rfl) (by kernel_rfl) (by kernel_rfl) (by kernel_rfl) (fun _ _ _ h => h) (Or.inl ⟨by rfl, ?_⟩) hHeld ?_
        rotate_left
        · intro w' hSw; (try dsimp only at hSw); go_simp <;> with_reducible rfl
        try simp only [Act.put, List.setIfInBounds_toArray, List.set_cons_zero, List.set_cons_succ]
        refine wpAnyE_take (i := 2) (oi := ({ dst := some 136, op := Op.fieldAddr 82 (Operand.tmp 135) 2, type := 0, pos := "match.go:143", after := #[{ on := 1, ground := Ground.data }], guard := none } : Oper)) (v := ?_) rfl (by kernel_rfl) (by kernel_rfl) (by kernel_rfl) (by kernel_rfl) (fun _ _ _ h => h) (Or.inl ⟨by rfl, ?_⟩) hHeld ?_
        rotate_left
        · intro w' hSw; (try dsimp only at hSw); go_simp <;> with_reducible rfl
        try simp only [Act.put, List.setIfInBounds_toArray, List.set_cons_zero, List.set_cons_succ]
        refine wpAnyE_take (i := 3) (oi := ({ dst := some 137, op := Op.load 79 (Operand.tmp 136), type := 79, pos := "match.go:143", after := #[{ on := 2, ground := Ground.data }], guard := none } : Oper)) (v := ?_) rfl (by kernel_rfl) (by kernel_rfl) (by kernel_rfl) (by kernel_rfl) (fun _ _ _ h => h) (Or.inl ⟨by rfl, ?_⟩) hHeld ?_
        rotate_left
        · intro w' hSw; (try dsimp only at hSw); have hcf := cell_of_row w' b 2 _ _ _ (HBK.out _ hSw); go_simp <;> with_reducible rfl
        try simp only [Act.put, List.setIfInBounds_toArray, List.set_cons_zero, List.set_cons_succ]
        refine wpAnyE_take (i := 4) (oi := ({ dst := some 138, op := Op.move (Operand.tmp 16), type := 3, pos := "match.go:143", after := #[], guard := none } : Oper)) (v := ?_) rfl (by kernel_rfl) (by kernel_rfl) (by kernel_rfl) (by kernel_rfl) (fun _ _ _ h => h) (Or.inl ⟨by rfl, ?_⟩) hHeld ?_
        rotate_left
        · intro w' hSw; (try dsimp only at hSw); go_simp <;> with_reducible rfl
        try simp only [Act.put, List.setIfInBounds_toArray, List.set_cons_zero, List.set_cons_succ]
        refine wpAnyE_take (i := 5) (oi := ({ dst := some 139, op := Op.indexAddr 79 (Operand.tmp 137) (Operand.tmp 138), type := 0, pos := "match.go:143", after := #[{ on := 3, ground := Ground.data }, { on := 4, ground := Ground.data }], guard := none } : Oper)) (v := ?_) rfl (by kernel_rfl) (by kernel_rfl) (by kernel_rfl) (by kernel_rfl) (fun _ _ _ h => h) (Or.inl ⟨by rfl, ?_⟩) hHeld ?_
        rotate_left
        · intro w' hSw; (try dsimp only at hSw); go_simp <;> with_reducible rfl
        try simp only [Act.put, List.setIfInBounds_toArray, List.set_cons_zero, List.set_cons_succ]
        refine wpAnyE_take (i := 6) (oi := ({ dst := some 140, op := Op.fieldAddr 93 (Operand.tmp 139) 0, type := 0, pos := "match.go:143", after := #[{ on := 5, ground := Ground.data }], guard := none } : Oper)) (v := ?_) rfl (by kernel_rfl) (by kernel_rfl) (by kernel_rfl) (by kernel_rfl) (fun _ _ _ h => h) (Or.inl ⟨by rfl, ?_⟩) hHeld ?_
        rotate_left
        · intro w' hSw; (try dsimp only at hSw); go_simp <;> with_reducible rfl
        try simp only [Act.put, List.setIfInBounds_toArray, List.set_cons_zero, List.set_cons_succ]
        refine wpAnyE_take (i := 7) (oi := ({ dst := some 141, op := Op.load 28 (Operand.tmp 140), type := 28, pos := "match.go:143", after := #[{ on := 6, ground := Ground.data }], guard := none } : Oper)) (v := .agg (sideC xd.p xd.x)) rfl (by kernel_rfl) (by kernel_rfl) (by kernel_rfl) (by kernel_rfl) (fun _ _ _ h => h) (yieldsIf_load_known (by rfl) 28 (Operand.tmp 140) rfl ⟨eg, d * 31, none⟩ (.agg (sideC xd.p xd.x)) rfl (fun w' h => HLD.out w' h)) hHeld ?_
        try simp only [Act.put, List.setIfInBounds_toArray, List.set_cons_zero, List.set_cons_succ]
        refine wpAnyE_take (i := 8) (oi := ({ dst := some 142, op := Op.move (Operand.tmp 0), type := 33, pos := "match.go:143", after := #[], guard := none } : Oper)) (v := ?_) rfl (by kernel_rfl) (by kernel_rfl) (by kernel_rfl) (by kernel_rfl) (fun _ _ _ h => h) (Or.inl ⟨by rfl, ?_⟩) hHeld ?_
        rotate_left
        · intro w' hSw; (try dsimp only at hSw); go_simp <;> with_reducible rfl
        try simp only [Act.put, List.setIfInBounds_toArray, List.set_cons_zero, List.set_cons_succ]
        refine wpAnyE_take (i := 9) (oi := ({ dst := some 143, op := Op.nilCheck (Operand.tmp 142), type := 0, pos := "match.go:143", after := #[{ on := 8, ground := Ground.data }], guard := none } : Oper)) (v := ?_) rfl (by kernel_rfl) (by kernel_rfl) (by kernel_rfl) (by kernel_rfl) (fun _ _ _ h => h) (Or.inl ⟨by rfl, ?_⟩) hHeld ?_
        rotate_left
        · intro w' hSw; (try dsimp only at hSw); go_simp <;> with_reducible rfl
        try simp only [Act.put, List.setIfInBounds_toArray, List.set_cons_zero, List.set_cons_succ]
        refine wpAnyE_take (i := 10) (oi := ({ dst := some 144, op := Op.fieldAddr 82 (Operand.tmp 143) 2, type := 0, pos := "match.go:143", after := #[{ on := 9, ground := Ground.data }], guard := none } : Oper)) (v := ?_) rfl (by kernel_rfl) (by kernel_rfl) (by kernel_rfl) (by kernel_rfl) (fun _ _ _ h => h) (Or.inl ⟨by rfl, ?_⟩) hHeld ?_
        rotate_left
        · intro w' hSw; (try dsimp only at hSw); go_simp <;> with_reducible rfl
        try simp only [Act.put, List.setIfInBounds_toArray, List.set_cons_zero, List.set_cons_succ]
        refine wpAnyE_take (i := 11) (oi := ({ dst := some 145, op := Op.load 79 (Operand.tmp 144), type := 79, pos := "match.go:143", after := #[{ on := 10, ground := Ground.data }], guard := none } : Oper)) (v := ?_) rfl (by kernel_rfl) (by kernel_rfl) (by kernel_rfl) (by kernel_rfl) (fun _ _ _ h => h) (Or.inl ⟨by rfl, ?_⟩) hHeld ?_
        rotate_left
        · intro w' hSw; (try dsimp only at hSw); have hcf := cell_of_row w' b 2 _ _ _ (HBK.out _ hSw); go_simp <;> with_reducible rfl
        try simp only [Act.put, List.setIfInBounds_toArray, List.set_cons_zero, List.set_cons_succ]
        refine wpAnyE_take (i := 12) (oi := ({ dst := some 146, op := Op.move (Operand.tmp 17), type := 3, pos := "match.go:143", after := #[], guard := none } : Oper)) (v := ?_) rfl (by kernel_rfl) (by kernel_rfl) (by kernel_rfl) (by kernel_rfl) (fun _ _ _ h => h) (Or.inl ⟨by rfl, ?_⟩) hHeld ?_
        rotate_left
        · intro w' hSw; (try dsimp only at hSw); go_simp <;> with_reducible rfl
        try simp only [Act.put, List.setIfInBounds_toArray, List.set_cons_zero, List.set_cons_succ]
        refine wpAnyE_take (i := 13) (oi := ({ dst := some 147, op := Op.indexAddr 79 (Operand.tmp 145) (Operand.tmp 146), type := 0, pos := "match.go:143", after := #[{ on := 11, ground := Ground.data }, { on := 12, ground := Ground.data }], guard := none } : Oper)) (v := ?_) rfl (by kernel_rfl) (by kernel_rfl) (by kernel_rfl) (by kernel_rfl) (fun _ _ _ h => h) (Or.inl ⟨by rfl, ?_⟩) hHeld ?_
        rotate_left
        · intro w' hSw; (try dsimp only at hSw); go_simp <;> with_reducible rfl
        try simp only [Act.put, List.setIfInBounds_toArray, List.set_cons_zero, List.set_cons_succ]
        refine wpAnyE_take (i := 14) (oi := ({ dst := some 148, op := Op.fieldAddr 93 (Operand.tmp 147) 0, type := 0, pos := "match.go:143", after := #[{ on := 13, ground := Ground.data }], guard := none } : Oper)) (v := ?_) rfl (by kernel_rfl) (by kernel_rfl) (by kernel_rfl) (by kernel_rfl) (fun _ _ _ h => h) (Or.inl ⟨by rfl, ?_⟩) hHeld ?_
        rotate_left
        · intro w' hSw; (try dsimp only at hSw); go_simp <;> with_reducible rfl
        try simp only [Act.put, List.setIfInBounds_toArray, List.set_cons_zero, List.set_cons_succ]
        refine wpAnyE_take (i := 15) (oi := ({ dst := some 149, op := Op.load 28 (Operand.tmp 148), type := 28, pos := "match.go:143", after := #[{ on := 14, ground := Ground.data }], guard := none } : Oper)) (v := .agg (sideC xr.p xr.x)) rfl (by kernel_rfl) (by kernel_rfl) (by kernel_rfl) (by kernel_rfl) (fun _ _ _ h => h) (yieldsIf_load_known (by rfl) 28 (Operand.tmp 148) rfl ⟨eg, r * 31, none⟩ (.agg (sideC xr.p xr.x)) rfl (fun w' h => HLE.out w' h)) hHeld ?_
        try simp only [Act.put, List.setIfInBounds_toArray, List.set_cons_zero, List.set_cons_succ]
        refine wpAnyE_take (i := 16) (oi := ({ dst := some 150, op := Op.move (Operand.tmp 0), type := 33, pos := "match.go:143", after := #[], guard := none } : Oper)) (v := ?_) rfl (by kernel_rfl) (by kernel_rfl) (by kernel_rfl) (by kernel_rfl) (fun _ _ _ h => h) (Or.inl ⟨by rfl, ?_⟩) hHeld ?_
        rotate_left
        · intro w' hSw; (try dsimp only at hSw); go_simp <;> with_reducible rfl
        try simp only [Act.put, List.setIfInBounds_toArray, List.set_cons_zero, List.set_cons_succ]
        refine wpAnyE_take (i := 17) (oi := ({ dst := some 151, op := Op.nilCheck (Operand.tmp 150), type := 0, pos := "match.go:143", after := #[{ on := 16, ground := Ground.data }], guard := none } : Oper)) (v := ?_) rfl (by kernel_rfl) (by kernel_rfl) (by kernel_rfl) (by kernel_rfl) (fun _ _ _ h => h) (Or.inl ⟨by rfl, ?_⟩) hHeld ?_
        rotate_left
        · intro w' hSw; (try dsimp only at hSw); go_simp <;> with_reducible rfl
        try simp only [Act.put, List.setIfInBounds_toArray, List.set_cons_zero, List.set_cons_succ]
        refine wpAnyE_take (i := 18) (oi := ({ dst := some 152, op := Op.fieldAddr 82 (Operand.tmp 151) 0, type := 0, pos := "match.go:143", after := #[{ on := 17, ground := Ground.data }], guard := none } : Oper)) (v := ?_) rfl (by kernel_rfl) (by kernel_rfl) (by kernel_rfl) (by kernel_rfl) (fun _ _ _ h => h) (Or.inl ⟨by rfl, ?_⟩) hHeld ?_
        rotate_left
        · intro w' hSw; (try dsimp only at hSw); go_simp <;> with_reducible rfl
        try simp only [Act.put, List.setIfInBounds_toArray, List.set_cons_zero, List.set_cons_succ]
        refine wpAnyE_take (i := 19) (oi := ({ dst := some 153, op := Op.load 29 (Operand.tmp 152), type := 29, pos := "match.go:143", after := #[{ on := 18, ground := Ground.data }], guard := none } : Oper)) (v := ?_) rfl (by kernel_rfl) (by kernel_rfl) (by kernel_rfl) (by kernel_rfl) (fun _ _ _ h => h) (Or.inl ⟨by rfl, ?_⟩) hHeld ?_
        rotate_left
        · intro w' hSw; (try dsimp only at hSw); have hcf := cell_of_row w' b 0 _ _ _ (HBK.out _ hSw); go_simp <;> with_reducible rfl
        try simp only [Act.put, List.setIfInBounds_toArray, List.set_cons_zero, List.set_cons_succ]
        refine wpAnyE_take (i := 20) (oi := ({ dst := some 154, op := Op.move (Operand.tmp 0), type := 33, pos := "match.go:143", after := #[], guard := none } : Oper)) (v := ?_) rfl (by kernel_rfl) (by kernel_rfl) (by kernel_rfl) (by kernel_rfl) (fun _ _ _ h => h) (Or.inl ⟨by rfl, ?_⟩) hHeld ?_
        rotate_left
        · intro w' hSw; (try dsimp only at hSw); go_simp <;> with_reducible rfl
        try simp only [Act.put, List.setIfInBounds_toArray, List.set_cons_zero, List.set_cons_succ]
        refine wpAnyE_take (i := 21) (oi := ({ dst := some 155, op := Op.nilCheck (Operand.tmp 154), type := 0, pos := "match.go:143", after := #[{ on := 20, ground := Ground.data }], guard := none } : Oper)) (v := ?_) rfl (by kernel_rfl) (by kernel_rfl) (by kernel_rfl) (by kernel_rfl) (fun _ _ _ h => h) (Or.inl ⟨by rfl, ?_⟩) hHeld ?_
        rotate_left
        · intro w' hSw; (try dsimp only at hSw); go_simp <;> with_reducible rfl
        try simp only [Act.put, List.setIfInBounds_toArray, List.set_cons_zero, List.set_cons_succ]
        refine wpAnyE_take (i := 22) (oi := ({ dst := some 156, op := Op.fieldAddr 82 (Operand.tmp 155) 1, type := 0, pos := "match.go:143", after := #[{ on := 21, ground := Ground.data }], guard := none } : Oper)) (v := ?_) rfl (by kernel_rfl) (by kernel_rfl) (by kernel_rfl) (by kernel_rfl) (fun _ _ _ h => h) (Or.inl ⟨by rfl, ?_⟩) hHeld ?_
        rotate_left
        · intro w' hSw; (try dsimp only at hSw); go_simp <;> with_reducible rfl
        try simp only [Act.put, List.setIfInBounds_toArray, List.set_cons_zero, List.set_cons_succ]
        refine wpAnyE_take (i := 23) (oi := ({ dst := some 157, op := Op.load 2 (Operand.tmp 156), type := 2, pos := "match.go:143", after := #[{ on := 22, ground := Ground.data }], guard := none } : Oper)) (v := ?_) rfl (by kernel_rfl) (by kernel_rfl) (by kernel_rfl) (by kernel_rfl) (fun _ _ _ h => h) (Or.inl ⟨by rfl, ?_⟩) hHeld ?_
        rotate_left
        · intro w' hSw; (try dsimp only at hSw); have hcf := cell_of_row w' b 1 _ _ _ (HBK.out _ hSw); go_simp <;> with_reducible rfl
        try simp only [Act.put, List.setIfInBounds_toArray, List.set_cons_zero, List.set_cons_succ]
        refine wpAnyE_ready (rs := [24]) (by kernel_rfl) (by simp) ?_
        refine AllReadyE.cons (o := ({ dst := some 158, op := Op.call { callee := Callee.value (Operand.func 7), args := #[Operand.tmp 141, Operand.tmp 149, Operand.tmp 153, Operand.tmp 157], argTypes := #[28, 28, 29, 2] }, type := 30, pos := "match.go:143", after := #[{ on := 7, ground := Ground.data }, { on := 15, ground := Ground.data }, { on := 19, ground := Ground.data }, { on := 23, ground := Ground.data }], guard := none } : Oper)) rfl (fun K hK => ?_) AllReadyE.nil
        go_simp
        go_at_call 7
        (with_reducible refine (HFIT.out _ hHeld).mono ?_)
        rintro e1 W2 ⟨rfl, hb2⟩
        have HB3 := Lib.hid (bl_then hHeld hb2)
        clear hb2
        have hHeld2 : (show World → Prop from fun W1 => Below W0.heap.size W0 W1) _ := HB3.out
        refine hK.out _ _ (Or.inr hHeld2) (fun _ => ?_)
        clear hK K hHeld
        try clear hb
        have hHeld := hHeld2
        clear hHeld2
        try simp only [Act.put, List.setIfInBounds_toArray, List.set_cons_zero, List.set_cons_succ]
        refine wpAnyE_take (i := 25) (oi := ({ dst := some 133, op := Op.move (Operand.tmp 158), type := 30, pos := "match.go:143", after := #[{ on := 24, ground := Ground.data }], guard := none } : Oper)) (v := ?_) rfl (by kernel_rfl) (by kernel_rfl) (by kernel_rfl) (by kernel_rfl) (fun _ _ _ h => h) (Or.inl ⟨by rfl, ?_⟩) hHeld ?_
        rotate_left
        · intro w' hSw; (try dsimp only at hSw); go_simp <;> with_reducible rfl
        try simp only [Act.put, List.setIfInBounds_toArray, List.set_cons_zero, List.set_cons_succ]
        refine wpAnyE_take (i := 26) (oi := ({ dst := some 159, op := Op.extract (Operand.tmp 133) 0, type := 2, pos := "match.go:143", after := #[{ on := 25, ground := Ground.data }], guard := none } : Oper)) (v := ?_) rfl (by kernel_rfl) (by kernel_rfl) (by kernel_rfl) (by kernel_rfl) (fun _ _ _ h => h) (Or.inl ⟨by rfl, ?_⟩) hHeld ?_
        rotate_left
        · intro w' hSw; (try dsimp only at hSw); go_simp <;> with_reducible rfl
        try simp only [Act.put, List.setIfInBounds_toArray, List.set_cons_zero, List.set_cons_succ]
        refine wpAnyE_take (i := 27) (oi := ({ dst := some 160, op := Op.extract (Operand.tmp 133) 1, type := 4, pos := "match.go:143", after := #[{ on := 25, ground := Ground.data }, { on := 28, ground := Ground.gcOnly Departure.lateStores }], guard := none } : Oper)) (v := ?_) rfl (by kernel_rfl) (by kernel_rfl) (by kernel_rfl) (by kernel_rfl) (fun _ _ _ h => h) (Or.inl ⟨by rfl, ?_⟩) hHeld ?_
        rotate_left
        · intro w' hSw; (try dsimp only at hSw); go_simp <;> with_reducible rfl
        try simp only [Act.put, List.setIfInBounds_toArray, List.set_cons_zero, List.set_cons_succ]
        refine wpAnyE_take (i := 28) (oi := ({ dst := some 18, op := Op.assign (Operand.tmp 159), type := 2, pos := "match.go:143", after := #[{ on := 26, ground := Ground.data }, { on := 24, ground := Ground.chain }, { on := 0, ground := Ground.phase }, { on := 1, ground := Ground.phase }, { on := 2, ground := Ground.phase }, { on := 3, ground := Ground.phase }, { on := 4, ground := Ground.phase }, { on := 5, ground := Ground.phase }, { on := 6, ground := Ground.phase }, { on := 7, ground := Ground.phase }, { on := 8, ground := Ground.phase }, { on := 9, ground := Ground.phase }, { on := 10, ground := Ground.phase }, { on := 11, ground := Ground.phase }, { on := 12, ground := Ground.phase }, { on := 13, ground := Ground.phase }, { on := 14, ground := Ground.phase }, { on := 15, ground := Ground.phase }, { on := 16, ground := Ground.phase }, { on := 17, ground := Ground.phase }, { on := 18, ground := Ground.phase }, { on := 19, ground := Ground.phase }, { on := 20, ground := Ground.phase }, { on := 21, ground := Ground.phase }, { on := 22, ground := Ground.phase }, { on := 23, ground := Ground.phase }, { on := 24, ground := Ground.phase }, { on := 25, ground := Ground.phase }, { on := 26, ground := Ground.phase }, { on := 27, ground := Ground.textOnly Departure.lateStores }], guard := none } : Oper)) (v := ?_) rfl (by kernel_rfl) (by kernel_rfl) (by kernel_rfl) (by kernel_rfl) (fun _ _ _ h => h) (Or.inl ⟨by rfl, ?_⟩) hHeld ?_
        rotate_left
        · intro w' hSw; (try dsimp only at hSw); go_simp <;> with_reducible rfl
        try simp only [Act.put, List.setIfInBounds_toArray, List.set_cons_zero, List.set_cons_succ]
        refine wpAnyE_take (i := 29) (oi := ({ dst := some 19, op := Op.assign (Operand.tmp 160), type := 4, pos := "match.go:143", after := #[{ on := 27, ground := Ground.data }, { on := 28, ground := Ground.chain }, { on := 0, ground := Ground.phase }, { on := 1, ground := Ground.phase }, { on := 2, ground := Ground.phase }, { on := 3, ground := Ground.phase }, { on := 4, ground := Ground.phase }, { on := 5, ground := Ground.phase }, { on := 6, ground := Ground.phase }, { on := 7, ground := Ground.phase }, { on := 8, ground := Ground.phase }, { on := 9, ground := Ground.phase }, { on := 10, ground := Ground.phase }, { on := 11, ground := Ground.phase }, { on := 12, ground := Ground.phase }, { on := 13, ground := Ground.phase }, { on := 14, ground := Ground.phase }, { on := 15, ground := Ground.phase }, { on := 16, ground := Ground.phase }, { on := 17, ground := Ground.phase }, { on := 18, ground := Ground.phase }, { on := 19, ground := Ground.phase }, { on := 20, ground := Ground.phase }, { on := 21, ground := Ground.phase }, { on := 22, ground := Ground.phase }, { on := 23, ground := Ground.phase }, { on := 24, ground := Ground.phase }, { on := 25, ground := Ground.phase }, { on := 26, ground := Ground.phase }, { on := 27, ground := Ground.phase }, { on := 28, ground := Ground.phase }], guard := none } : Oper)) (v := ?_) rfl (by kernel_rfl) (by kernel_rfl) (by kernel_rfl) (by kernel_rfl) (fun _ _ _ h => h) (Or.inl ⟨by rfl, ?_⟩) hHeld ?_
        rotate_left
        · intro w' hSw; (try dsimp only at hSw); go_simp <;> with_reducible rfl
        try simp only [Act.put, List.setIfInBounds_toArray, List.set_cons_zero, List.set_cons_succ]
        refine wpAnyE_done (by kernel_rfl) ?_ _
        have HB4 : Hid (Below W0.heap.size W0 W2) := Lib.hid hHeld
        clear HB3 hHeld HB2 HFIT HLD HLE
        cases ok with
        | false =>
          have HN2 := Lib.hid (find_step HN.out HLk.out (by rw [HFKK.out]))
          go_wp2
          go_roundg (L.length - (k + 1))
          case measure => omega
          case rel => exact ⟨k + 1, by go_num, by omega, by omega, HB4, HN2⟩
        | true =>
          have HN2 := Lib.hid (find_here HN.out HLk.out (by rw [HFKK.out]))
          obtain ⟨j, q, hq, hs, hl⟩ := HLQ.out (by omega)
          go_upto_if 162 with fail
          refine wp_cond_false rfl (wp_skip ?_)
          rename_i hK27
          refine hK27 _ _ ?_
          refine add_tail27 (F := F) (w := w) (j := j) (i := k) (q := q) (d := d) (r := r) (n := es.length) (am := am) (ex := ex) (es := es) (f := faceO e.p e.x zs) _ _ _ _ _ _ _ _ _ _ _ _ _ _ _ _ _ _ _ _ _ _ _ _ _ _ _ _ _ _ _ _ _ _ _ _ _ _ _ _ _ _ _ _ _ _ _ _ _ _ _ _ _ _ _ _ _ _ _ _ _ _ _ _ _ _ _ _ _ _ _ _ _ _ _ _ _ _ _ _ _ _ _ _ _ _ _ _ _ _ _ _ _ _ _ _ _ _ _ _ _ _ _ _ _ _ _ _ _ _ _ _ _ _ _ _ _ _ _ _ _ _ _ _ _ _ _ _ _ _ _ _ _ _ _ _ _ _ _ _ _ _ _ _ _ _ _ _ _ _ _ _ _ _ _ _ _ _ _ _ _ _ _ _ _ _ _ _ _ _ _ _ _ _ _ _ _ _ _ _ _ _ _ _ _ _ _ _ _ _ _ _ _ _ _ _ _ _ _ _ _ _ _ _ _ _ _ _ _ _ _ _ _ _ _ _ _ _ _ _ _ (HM0.out.grow HB4.out) (HR0.out.grow HB4.out) HWW.out HFO.out (blk_none HF0.out (gb_below HB4.out)) hq hs (by rw [hl]; exact hlt) (by rw [hl]; have := HEL.out; have := HWL.out; omega) HD.out HR.out (by rw [← hex]; have := HEL.out; simp; omega) HPL.out ?_ ?_
          · intro c1 a1 a2 w1 h hd1
            exact ⟨hd1.trans h.1, h.2⟩
          · intro T W' ev' pv' v' h1 h2 h3 hm hr
            have hdd := HDD.out
            have hrr := HRR.out
            have ham : am = (fitK zs tol e (es.getD kk ent0)).1 := by rw [HFKK.out]
            subst hdd hrr ham
            have hb : Φ (.returned (.tuple #[T.getD 4 undef, T.getD 5 undef, T.getD 6 undef])) W' := by
              rw [h1, h2, h3]
              exact HP1.out kk HN2.out W' ev' pv' v' j k q hq hs hl (by rw [hl]; exact HLk.out) hm hr
            exact bodyPost_ret (results_tmp3 rfl _ _ _) rfl hb
    · have e0 : k = L.length := by omega
      subst e0
      have HN2 : Hid (L.find? (fun k => (fitK zs tol e (es.getD k ent0)).2) = none) := Lib.hid (by have := HN.out; rwa [List.take_length] at this)
      go_upto_if 122 with fail
      refine wp_cond_false rfl (wp_exit ?_)
      refine hK33 _ _ ?_
      subst hex
      exact add_tail33 (F := F) (w := w) (e := e) _ _ _ _ _ _ _ _ _ _ _ _ _ _ _ _ _ _ _ _ _ _ _ _ _ _ _ _ _ _ _ _ _ _ _ _ _ _ _ _ _ _ _ _ _ _ _ _ _ _ _ _ _ _ _ _ _ _ _ _ _ _ _ _ _ _ _ _ _ _ _ _ _ _ _ _ _ _ _ _ _ _ _ _ _ _ _ _ _ _ _ _ _ _ _ _ _ _ _ _ _ _ _ _ _ _ _ _ _ _ _ _ _ _ _ _ _ _ _ _ _ _ _ _ _ _ _ _ _ _ _ _ _ _ _ _ _ _ _ _ _ _ _ _ _ _ _ _ _ _ _ _ _ _ _ _ _ _ _ _ _ _ _ _ _ _ _ _ _ _ _ _ _ _ _ _ _ _ _ _ _ _ _ _ _ _ _ _ _ _ _ _ _ _ _ _ _ _ _ _ _ _ _ _ _ _ _ _ _ _ _ _ _ _ _ _ _ _ _ _ _ _ _ _ _ (HM0.out.grow HB.out) (HR0.out.grow HB.out) HWW.out HOO.out HFE.out (blk_none HFA0.out (gb_below HB.out)) (by have := HEL.out; omega) (HP0.out HN2.out)
end Go.Proofs.YtphabkaiheplpaaGreatDoor
/- match.copied: a side with links of its own. -/
set_option linter.unusedVariables false
set_option linter.unusedSimpArgs false
set_option maxRecDepth 100000
namespace Go.Proofs.YtphabkaiheplpaaGreatDoor
open Go.RowKit Go.Shelf

theorem sideC_one (p : Int) (x : Nt) : (sideC p x).all (·.oneCell') = true := by simp [sideC, sideV, Value.oneCell']
theorem sideC_size (p : Int) (x : Nt) : (sideC p x).size = 28 := rfl
theorem sideC_links (p : Int) (x : Nt) (la : Option Addr) (lc : Nat) : (sideC p x).setIfInBounds 27 (.slice la x.ln lc) = sideC p { x with la := la, lc := lc } := by kernel_rfl
theorem store_side (C D : Array Value) (W : World) (g : Nat) (T : TypeId) (hg : W.heap[g]? = some (.cells C T (0, 0))) (hc : C.size = 28) (hd : D.size = 28) (h1 : D.all (·.oneCell') = true) : (storeVar 28 ⟨g, 0, none⟩ (.agg D)).run Tryz.prog W = .ok () (W.setRow g D) :=
  run_storeVar_row W g T _ C D hg (by rw [hd]; exact side_size) (by rw [hc, hd]) h1
theorem two_new {w : World} {C Z : Array Value} {t : TypeId} {motive : World → Prop} (hz : Z.size = 28)
    (h : ∀ (W : World) (Z : Array Value), Z.size = 28 → Below w.heap.size w W → W.heap[w.heap.size]? = some (.cells C t (0, 0)) → W.heap[w.heap.size + 1]? = some (.cells Z t (0, 0)) → motive W) : motive ((w.alloc (.cells C t)).alloc (.cells Z t)) :=
  h _ Z hz (bl_alloc (bl_alloc (bl_refl w) _) _) (heap_alloc2_old w _ _) (heap_alloc2_new w _ _)
theorem gb_setRow (W : World) (g : Nat) (cs : Array Value) : W.grownBy (W.setRow g cs) (some g) := ⟨rfl, rfl, rfl, by simp, fun i _ hne => setRow_other W g i cs (fun e => hne (by rw [e]))⟩
theorem own_low {w : World} {b base n : Nat} {e : TypeId} {size : Nat} {v : Value} {xs : List Value} (h : w.ownsRow b e size v n xs) (hb : base ≤ b) : w.ownsRow base e size v n xs := by
  rcases h with ⟨h0, h1 | ⟨g, cap, cur, h1, h2, h3⟩⟩
  · exact ⟨h0, .inl h1⟩
  · exact ⟨h0, .inr ⟨g, cap, cur, h1, by omega, h3⟩⟩
set_option maxHeartbeats 8000000 in
set_option maxRecDepth 1000000 in
theorem copied_any (p : Int) (x : Nt) (lx : List Lk) (w : World) (hr : RdL w x.la x.ln lx) (hn : x.ln * 24 ≤ 140737488351232) :
    Calls Tryz.prog 32 #[.agg (sideC p x)] w fun e w' => ∃ (la' : Option Addr) (lc' : Nat), e = .returned (.agg (sideC p { x with la := la', lc := lc' })) ∧ w'.ownsRow w.heap.size 112 2 (.slice la' x.ln lc') x.ln (lks lx) ∧ Below w.heap.size w w' := by
  have k27 := Lib.hid (show (sideC p x)[27]? = some (.slice x.la x.ln x.lc) from rfl)
  have hCX := Lib.hid (show (sideC p x).size = 28 from rfl)
  have HS := Lib.hid (fun la lc => sideC_links p x la lc)
  have HRD := Lib.hid hr
  have HNN := Lib.hid hn
  have HLD := Lib.hid (fun (la : Option Addr) (lc : Nat) => load_side p { x with la := la, lc := lc })
  have HONE := Lib.hid (fun (la : Option Addr) (lc : Nat) => sideC_one p { x with la := la, lc := lc })
  have HSZ := Lib.hid (fun (la : Option Addr) (lc : Nat) => sideC_size p { x with la := la, lc := lc })
  generalize hE : (fun (la : Option Addr) (lc : Nat) => sideC p { x with la := la, lc := lc }) = E
  replace hE := fun la lc => congrFun (congrFun hE la) lc
  simp only [hE] at *
  clear hr hn hE
  generalize sideC p x = CX at *
  go_enter Tryz.func32, Tryz.ntmps32
  go_upto_region 1 with fail
  refine two_new (motive := fun W => Code.wp _ _ _ _ W) rfl ?_
  intro W Z hz hb g1 g2
  have HB := Lib.hid hb
  have G1 := Lib.hid g1
  have G2 := Lib.hid g2
  have HZ := Lib.hid hz
  have c27 : W.cell? ⟨w.heap.size, 27, none⟩ = some (.slice x.la x.ln x.lc) := (cell_of_row W _ 27 _ _ _ g1).trans k27.out
  have HCL := Lib.hid (cloneLk x.la x.ln x.lc lx W (HRD.out.below hb) HNN.out)
  clear hb g1 g2 hz
  go_upto_region 2 with (go_at_call 66; (with_reducible refine HCL.out.mono ?_); rintro e w3 ⟨v', rfl, hown, hb3⟩; obtain ⟨la', lc', rfl⟩ := ow_slice hown; have HOWN := Lib.hid hown; have HB3 := Lib.hid hb3; have g3 := blk_none G1.out (gb_below hb3); have c3 : w3.cell? ⟨w.heap.size, 27, none⟩ = some (.slice x.la x.ln x.lc) := (cell_of_row w3 _ 27 _ _ _ g3).trans k27.out; have f3 : w3.frozen? ⟨w.heap.size, 27, none⟩ = false := row_free g3 27; have G3 := Lib.hid g3; have H3 := Lib.hid (blk_none G2.out (gb_below hb3)); clear hown hb3 g3)
  have hz : w.heap.size + 1 < W.heap.size := (Array.getElem?_eq_some_iff.1 G2.out).1
  have G4 : Hid ((w3.setCell ⟨w.heap.size, 27, none⟩ (.slice la' x.ln lc')).heap[w.heap.size]? = some (.cells (E la' lc') 28 (0, 0))) := Lib.hid (by rw [← HS.out la' lc']; exact heap_setCell_same w3 _ 27 _ _ _ G3.out)
  have H4 := Lib.hid (blk_ne H3.out (show w.heap.size + 1 ≠ w.heap.size by omega) (gb_cell w3 ⟨w.heap.size, 27, none⟩ (.slice la' x.ln lc')))
  have O4 := Lib.hid (ow_other HOWN.out G3.out (by decide) (gb_cell w3 ⟨w.heap.size, 27, none⟩ (.slice la' x.ln lc')))
  have B4 : Hid (Below w.heap.size w (w3.setCell ⟨w.heap.size, 27, none⟩ (.slice la' x.ln lc'))) := Lib.hid ((bl_then HB.out HB3.out).setCell (Nat.le_refl _) _)
  clear c3 f3 G3 H3 HOWN HB HB3 HCL G1 G2 c27
  generalize w3.setCell ⟨w.heap.size, 27, none⟩ (.slice la' x.ln lc') = w4 at G4 H4 O4 B4 ⊢
  have LD := Lib.hid (HLD.out la' lc' w4 w.heap.size _ G4.out)
  have ST := Lib.hid (store_side Z (E la' lc') w4 (w.heap.size + 1) _ H4.out HZ.out (HSZ.out la' lc') (HONE.out la' lc'))
  go_wp2_with (first | (refine wpList_load_known rfl 28 (.tmp 1) rfl ⟨w.heap.size, 0, none⟩ (.agg (E la' lc')) rfl LD.out ?_) | (refine wpList_store_plain rfl rfl 28 (.tmp 2) (.tmp 9) rfl ⟨w.heap.size + 1, 0, none⟩ (.agg (E la' lc')) rfl rfl ST.out ?_))
  have LE := Lib.hid (HLD.out la' lc' (w4.setRow (w.heap.size + 1) (E la' lc')) (w.heap.size + 1) 28 (setRow_heap w4 _ _ _ _ _ H4.out))
  refine bodyPost_ret (results_cell rfl _ (a := ⟨w.heap.size + 1, 0, none⟩) rfl LE.out) rfl ⟨la', lc', rfl, ?_, ?_⟩
  · exact own_low (ow_other O4.out H4.out (by decide) (gb_setRow w4 _ _)) (by omega)
  · exact bl_setRow B4.out (by omega) _
end Go.Proofs.YtphabkaiheplpaaGreatDoor
/- Words for (*match.Book).Add: a new entry, a new name, a new face. -/
set_option linter.unusedVariables false
set_option linter.unusedSimpArgs false
set_option maxRecDepth 100000
namespace Go.Proofs.YtphabkaiheplpaaGreatDoor
open Go.RowKit Go.Shelf Go.Maps
open Go.ChangeMaps (setBlock)

theorem faceE_own (p : Int) (x : Nt) (la : Option Addr) (lc : Nat) (zs : List ByteArray) : faceE p { x with la := la, lc := lc } zs = faceE p x zs := by kernel_rfl
theorem faceO_own (p : Int) (x : Nt) (la : Option Addr) (lc : Nat) (zs : List ByteArray) : faceO p { x with la := la, lc := lc } zs = faceO p x zs := by kernel_rfl
theorem build_entry (p : Int) (x : Nt) (lx : List Lk) (w : World) : (Instr.build 93 #[(0, .agg (sideC p x)), (1, .int .i64 (-1))]).run Tryz.prog w = .ok (.agg (entC ⟨p, x, lx, -1, false, false⟩).toArray) w := by kernel_rfl
theorem slice_entry (p : Int) (x : Nt) (lx : List Lk) (w : World) : (Instr.buildSlice 79 1 #[(0, .agg (entC ⟨p, x, lx, -1, false, false⟩).toArray)]).run Tryz.prog w = .ok (.slice (some ⟨w.heap.size, 0, none⟩) 1 1) (w.alloc (.cells (entC ⟨p, x, lx, -1, false, false⟩).toArray 93)) := by kernel_rfl
theorem infoE : (Tryz.prog.info? 93).map (fun i => (i.zero, i.size, i.bytes)) = some (some (.agg (entC ⟨0, nt0, [], 0, false, false⟩).toArray), 31, 208) := by kernel_rfl
section
variable {P : Program} {Q : Exit → Act → World → Prop}
theorem wp_buildSlice_known {o : Oper} {a : Act} {w w2 : World} {K : Act → World → Prop} (t : TypeId) (n : Nat) (qs : Array (Nat × Operand)) (ho : o.op = .buildSlice t n qs) (vs : Array (Nat × Value)) (v : Value) (hv : (qs.toList.map fun p => (p.1, a.eval p.2)) = vs.toList) (hl : (Instr.buildSlice t n vs).run P w = .ok v w2) (hK : K (a.put o.dst v) w2) : Oper.wp P o a w K Q := by
  have hv : (qs.map fun (i, x) => (i, a.eval x)) = vs := by
    apply Array.toList_inj.1
    rw [Array.toList_map]
    exact hv
  unfold Oper.wp execOp
  simp only [ho, hv, Sem.run_bind, Sem.run_pure, Result.andThen_ok, hl]
  exact hK
theorem wp_alloc_known {o : Oper} {a : Act} {w : World} {K : Act → World → Prop} (t : TypeId) (ho : o.op = .alloc t) (Z : Array Value) (hl : (Instr.alloc t true (.tuple #[])).run P w = .ok (.pointer (some ⟨w.heap.size, 0, none⟩)) (w.alloc (.cells Z t)))
    (hK : ∀ (W : World) (g : Nat), Below w.heap.size w W → W.heap[g]? = some (.cells Z t (0, 0)) → w.heap.size ≤ g → K (a.put o.dst (.pointer (some ⟨g, 0, none⟩))) W) : Oper.wp P o a w K Q := by
  unfold Oper.wp execOp
  simp only [ho, Sem.run_bind, Sem.run_pure, Result.andThen_ok, hl]
  exact hK _ _ (bl_alloc (bl_refl w) _) (heap_alloc_new w _) (Nat.le_refl _)
end
theorem alloc_face (w : World) : (Instr.alloc 68 true (.tuple #[])).run Tryz.prog w = .ok (.pointer (some ⟨w.heap.size, 0, none⟩)) (w.alloc (.cells (faceC face0) 68)) := by kernel_rfl
/-- A new name. -/
theorem name_put {zs : List ByteArray} {es : List Ent} {ps : List Pr} (h : StOk zs es ps) {W : World} {m : Nat} (hm : MapIs W m (nmOf es)) (p : Int) (r : ByteArray) (hp : I64 p) (hr : r.size ≤ 140737488351232) (htw : twiceB es p r = false) (e : Ent) (he : e.p = p) (her : e.x.ref = r) :
    ∃ o, (Instr.mapUpdate 77 (.map (some m)) (nameV p r) (natV es.length)).run Tryz.prog W = .ok () (setBlock W m o) ∧ MapIs (setBlock W m o) m (nmOf (es ++ [e])) := by
  have hz : nmOf (es ++ [e]) = nmOf es ++ [(nameV p r, natV es.length)] := by
    unfold nmOf
    rw [List.zipIdx_append, List.map_append]
    simp [he, her]
  obtain ⟨o, h1, h2⟩ := store_leaves (val := natV es.length) hm name_law Tryz.underlying77 (nmOf_keys h) (name_keyOf p r hp hr)
  refine ⟨o, h1, ?_⟩
  rcases h2 with ⟨_, h2⟩ | ⟨j, v, hj, _⟩
  · rw [hz]
    exact h2
  · exfalso
    obtain ⟨i, hi, e1⟩ := mem_nmOf (List.mem_of_getElem? hj)
    injection e1 with e1 _
    obtain ⟨e2, e3⟩ := nameV_inj.1 e1
    unfold twiceB at htw
    rw [List.any_eq_false] at htw
    exact htw _ (getD_mem hi) (by simp [e2, e3])
end Go.Proofs.YtphabkaiheplpaaGreatDoor
