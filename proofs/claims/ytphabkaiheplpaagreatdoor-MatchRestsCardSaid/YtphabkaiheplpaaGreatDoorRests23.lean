/- Joined texts of this proof: BkHd. -/
import Derived.Outline
import Derived.Test.YtphabkaiheplpaaGreatDoorRests3
import Derived.Test.YtphabkaiheplpaaGreatDoorRests22
/- (*match.Book).Add, whole. -/
set_option linter.unusedVariables false
set_option linter.unusedSimpArgs false
set_option maxRecDepth 100000
namespace Go.Proofs.YtphabkaiheplpaaGreatDoor
open Go.RowKit Go.Shelf Go.Maps
open Go.ChangeMaps (setBlock)

theorem wp_lookup_known {P : Program} {Q : Exit → Act → World → Prop} {o : Oper} {a : Act} {w : World} {K : Act → World → Prop} (t : TypeId) (m x : Operand) (ok : Bool) (ho : o.op = .lookup t m x ok) (mv key v : Value) (hm : a.eval m = mv) (hx : a.eval x = key) (hl : (Instr.lookup t mv key ok).run P w = .ok v w) (hK : K (a.put o.dst v) w) : Oper.wp P o a w K Q := by
  unfold Oper.wp execOp
  simp only [ho, hm, hx, Sem.run_bind, Sem.run_pure, Result.andThen_ok, hl]
  exact hK
theorem name_lookup {zs : List ByteArray} {es : List Ent} {ps : List Pr} (h : StOk zs es ps) {W : World} {m : Nat} (hm : MapIs W m (nmOf es)) (p : Int) (r : ByteArray) (hp : I64 p) (hr : r.size ≤ 140737488351232) :
    ∃ v, (Instr.lookup 77 (.map (some m)) (nameV p r) true).run Tryz.prog W = .ok (.tuple #[v, .bool (twiceB es p r)]) W := by
  rcases name_tells h hm p r hp hr with ⟨h1, _, h2⟩ | ⟨h1, i, _, _, _, h2⟩
  · exact ⟨_, by rw [h1]; exact h2⟩
  · exact ⟨_, by rw [h1]; exact h2⟩
/-- The number of Add's refusal; 0: none. -/
def addNo (zs : List ByteArray) (es : List Ent) (p : Int) (x : Nt) (lx : List Lk) : Int :=
  if noteE x lx ≠ 0 then noteE x lx else if x.cancel then 24 else if p < 0 ∨ (zs.length : Int) ≤ p then 10 else if twiceB es p x.ref then 11 else 0
/-- What Add answers and leaves. -/
noncomputable def addRes (zs : List ByteArray) (tol : Int) (es : List Ent) (ps : List Pr) (e : Ent) : Int × List Ent × List Pr := match firstK zs tol es e with
  | none => (-1, es ++ [e], ps)
  | some k => (ps.length, paired (es ++ [e]) (drOf e es.length k).1 (drOf e es.length k).2 ps.length, ps ++ [Pr.mk (drOf e es.length k).1 (drOf e es.length k).2 (fitK zs tol e (es.getD k ent0)).1 false])
noncomputable def AddOut (F : Nat → Prop) (W : World) (b : Nat) (zs : List ByteArray) (tol : Int) (es : List Ent) (ps : List Pr) (p : Int) (x : Nt) (lx : List Lk) (e : Ending) (w' : World) : Prop :=
  (addNo zs es p x lx ≠ 0 ∧ (∃ E : GErr, e = .returned (.tuple #[.int .i64 0, .int .i64 0, E.val]) ∧ E.num = addNo zs es p x lx ∧ E ≠ .nil ∧ E.plain = true) ∧ BkI F w' b zs tol es ps ∧ Below W.heap.size W w') ∨
  (addNo zs es p x lx = 0 ∧ ∃ (la : Option Addr) (lc : Nat), e = .returned (.tuple #[.int .i64 es.length, .int .i64 (addRes zs tol es ps (entN p x lx la lc)).1, .nilIface]) ∧
    BkI (newF F W w') w' b zs tol (addRes zs tol es ps (entN p x lx la lc)).2.1 (addRes zs tol es ps (entN p x lx la lc)).2.2 ∧ Fr F W w')
set_option maxHeartbeats 8000000 in
set_option maxRecDepth 1000000 in
theorem add_walk {F : Nat → Prop} {W : World} {b : Nat} {tv ev pv : Value} {m1 m2 : Nat} {ws : List Wq} {zs : List ByteArray} {tol : Int} {es : List Ent} {ps : List Pr} {p : Int} {x : Nt} {lx : List Lk} {Φ : Ending → World → Prop}
    (HM : BkM F W W b tv ev pv m1 m2 (ws.map kwF) #[tv, .int .i64 tol, ev, .map (some m1), .map (some m2), pv] zs (nmOf es) es ps) (HR : WsR F W.heap.size W ws) (HS : StOk zs es ps) (HW : WsOk zs es ws) (hx : x.wf) (hp : I64 p) (hrl : RdL W x.la x.ln lx) (hok : OkL lx) (hln : x.ln * 24 ≤ 140737488351232) (hsh : Short zs) (ht : I64 tol) (hpw : PowT W) (hpf : PowFree F)
    (hel : es.length + 1 ≤ 676000000000) (hzl : zs.length ≤ 140737488351232) (hpl : (ps.length + 1) * 32 ≤ 140737488355328)
    (bad : ∀ (E : GErr) (w' : World), addNo zs es p x lx ≠ 0 → E.num = addNo zs es p x lx → E ≠ .nil → E.plain = true → Below W.heap.size W w' → Φ (.returned (.tuple #[.int .i64 0, .int .i64 0, E.val])) w')
    (post : addNo zs es p x lx = 0 → ∀ (la : Option Addr) (lc : Nat) (ev' : Value), AddPost F W b tv ev' pv m1 m2 ws zs tol (nmOf (es ++ [entN p x lx la lc])) es ps (entN p x lx la lc) Φ) :
    Calls Tryz.prog 10 #[.pointer (some ⟨b, 0, none⟩), .agg (sideC p x)] W Φ := by
  have HAN : Hid (addNo zs es p x lx = if noteE x lx ≠ 0 then noteE x lx else if x.cancel then 24 else if p < 0 ∨ (zs.length : Int) ≤ p then 10 else if twiceB es p x.ref then 11 else 0) := Lib.hid rfl
  generalize addNo zs es p x lx = AN at HAN bad post
  obtain ⟨TA, tc, hev, hrdt, _⟩ := RdT_of_own HM.rT
  subst hev
  have HL := Lib.hid (load_note p x (W.alloc (.cells (sideC p x) 28)) W.heap.size _ (heap_alloc_new W _))
  have HB1 := Lib.hid (bl_alloc (bl_refl W) (.cells (sideC p x) 28))
  have HG1 := Lib.hid (heap_alloc_new W (.cells (sideC p x) 28))
  have HCK := Lib.hid (check_any x hx lx (W.alloc (.cells (sideC p x) 28)) (hpw.below HB1.out) (hrl.below HB1.out) hok (by omega))
  have HM0 := Lib.hid HM
  have HR0 := Lib.hid HR
  have HSS := Lib.hid HS
  have HWW := Lib.hid HW
  have HX := Lib.hid hx
  have HP := Lib.hid hp
  have HRL := Lib.hid hrl
  have HOK := Lib.hid hok
  have HLN := Lib.hid hln
  have HSH := Lib.hid hsh
  have HT := Lib.hid ht
  have HPW := Lib.hid hpw
  have HPF := Lib.hid hpf
  have HEL := Lib.hid hel
  have HZL := Lib.hid hzl
  have HPL := Lib.hid hpl
  have HBAD := Lib.hid bad
  have HPO := Lib.hid post
  have K := Lib.hid (show (sideC p x)[0]? = some (.int .i64 p) ∧ (sideC p x)[1]? = some (.string x.ref) ∧ (sideC p x)[3]? = some (.bool x.cancel) from ⟨rfl, rfl, rfl⟩)
  clear HM HR HS HW hx hp hrl hok hln hsh ht hpw hpf hel hzl hpl bad post
  obtain ⟨SC, hSC⟩ : ∃ S, S = sideC p x := ⟨_, rfl⟩
  have HSC := Lib.hid hSC
  rw [← hSC] at HL HB1 HG1 HCK K ⊢
  clear hSC
  go_enter Tryz.func10, Tryz.ntmps10
  go_upto_region 1 with fail
  generalize W.alloc (.cells SC 28) = W1 at HL HB1 HG1 HCK ⊢
  go_upto_region 2 with (first | (refine wpList_load_known rfl 26 (.tmp 21) rfl ⟨W.heap.size, 1, none⟩ (.agg (noteC x)) rfl HL.out ?_) | (go_at_call 30; (with_reducible refine HCK.out.mono ?_); rintro e w1 ⟨E, rfl, hen, heo, hep, hb⟩; have HEN := Lib.hid hen; have HEO := Lib.hid heo; have HEP := Lib.hid hep; have HB2 := Lib.hid hb; clear hen heo hep hb))
  have HB3 := Lib.hid (bl_then HB1.out HB2.out)
  have HG3 := Lib.hid (blk_none HG1.out (gb_below HB2.out))
  clear HL HB1 HG1 HCK HB2
  by_cases hE : E = .nil
  · have hn0 : noteE x lx = 0 := by rw [← HEN.out, hE]; rfl
    subst hE
    have hne : ∀ w, (binOp .neq 36 GErr.nil.val .nilIface).run Tryz.prog w = .ok (.bool false) w := fun w => by rw [neq_nil_err]; rfl
    have hgn := fun x c w => guard_errN .nil x c w
    have HAN2 := Lib.hid (HAN.out.trans (if_neg (fun h => h hn0)))
    clear HAN HEN HEO HEP
    go_upto_region 8 with fail
    clear hne hgn
    have HM4 := Lib.hid ((HM0.out.grow HB3.out).drew)
    have HR4 := Lib.hid ((HR0.out.grow HB3.out).drew)
    have HG4 : Hid (w1.drew.heap[W.heap.size]? = some (.cells SC 28 (0, 0))) := Lib.hid HG3.out
    have HB4 : Hid (Below W.heap.size W w1.drew) := Lib.hid (bl_drew HB3.out)
    obtain ⟨LV, hlk⟩ := name_lookup HSS.out HM4.out.mN p x.ref HP.out HX.out.ref
    have HLK := Lib.hid hlk
    clear HM0 HR0 HB3 HG3 hlk
    generalize htw : twiceB es p x.ref = tw at HLK HAN2
    have HTW := Lib.hid htw
    clear htw
    refine wp_region_heldE (S := fun W1 => W1.heap[b]? = some (.cells #[.slice TA zs.length tc, .int .i64 tol, ev, .map (some m1), .map (some m2), pv] 82 (0, 0)) ∧ W1.heap[W.heap.size]? = some (.cells SC 28 (0, 0))) (ds := []) (by kernel_rfl) (⟨HM4.out.book, HG4.out⟩) (fun hHeld => ?_)
    refine wpAnyE_take (i := 0) (oi := ({ dst := some 38, op := Op.move (Operand.tmp 0), type := 33, pos := "match.go:126", after := #[], guard := none } : Oper)) (v := ?_) rfl (by kernel_rfl) (by kernel_rfl) (by kernel_rfl) (by kernel_rfl) (fun _ _ _ h => h) (Or.inl ⟨by rfl, ?_⟩) hHeld ?_
    rotate_left
    · intro w' hSw; (try dsimp only at hSw); go_simp <;> with_reducible rfl
    try simp only [Act.put, List.setIfInBounds_toArray, List.set_cons_zero, List.set_cons_succ]
    refine wpAnyE_take (i := 1) (oi := ({ dst := some 39, op := Op.nilCheck (Operand.tmp 38), type := 0, pos := "match.go:126", after := #[{ on := 0, ground := Ground.data }], guard := none } : Oper)) (v := ?_) rfl (by kernel_rfl) (by kernel_rfl) (by kernel_rfl) (by kernel_rfl) (fun _ _ _ h => h) (Or.inl ⟨by rfl, ?_⟩) hHeld ?_
    rotate_left
    · intro w' hSw; (try dsimp only at hSw); go_simp <;> with_reducible rfl
    try simp only [Act.put, List.setIfInBounds_toArray, List.set_cons_zero, List.set_cons_succ]
    refine wpAnyE_take (i := 2) (oi := ({ dst := some 40, op := Op.fieldAddr 82 (Operand.tmp 39) 3, type := 0, pos := "match.go:126", after := #[{ on := 1, ground := Ground.data }], guard := none } : Oper)) (v := ?_) rfl (by kernel_rfl) (by kernel_rfl) (by kernel_rfl) (by kernel_rfl) (fun _ _ _ h => h) (Or.inl ⟨by rfl, ?_⟩) hHeld ?_
    rotate_left
    · intro w' hSw; (try dsimp only at hSw); go_simp <;> with_reducible rfl
    try simp only [Act.put, List.setIfInBounds_toArray, List.set_cons_zero, List.set_cons_succ]
    refine wpAnyE_take (i := 3) (oi := ({ dst := some 41, op := Op.load 77 (Operand.tmp 40), type := 77, pos := "match.go:126", after := #[{ on := 2, ground := Ground.data }], guard := none } : Oper)) (v := ?_) rfl (by kernel_rfl) (by kernel_rfl) (by kernel_rfl) (by kernel_rfl) (fun _ _ _ h => h) (Or.inl ⟨by rfl, ?_⟩) hHeld ?_
    rotate_left
    · intro w' hSw; (try dsimp only at hSw); have hcf := cell_of_row w' b 3 _ _ _ hSw.1; go_simp <;> with_reducible rfl
    try simp only [Act.put, List.setIfInBounds_toArray, List.set_cons_zero, List.set_cons_succ]
    refine wpAnyE_take (i := 4) (oi := ({ dst := some 42, op := Op.fieldAddr 28 (Operand.tmp 3) 0, type := 0, pos := "match.go:126", after := #[], guard := none } : Oper)) (v := ?_) rfl (by kernel_rfl) (by kernel_rfl) (by kernel_rfl) (by kernel_rfl) (fun _ _ _ h => h) (Or.inl ⟨by rfl, ?_⟩) hHeld ?_
    rotate_left
    · intro w' hSw; (try dsimp only at hSw); go_simp <;> with_reducible rfl
    try simp only [Act.put, List.setIfInBounds_toArray, List.set_cons_zero, List.set_cons_succ]
    refine wpAnyE_take (i := 5) (oi := ({ dst := some 43, op := Op.load 3 (Operand.tmp 42), type := 3, pos := "match.go:126", after := #[{ on := 4, ground := Ground.data }], guard := none } : Oper)) (v := ?_) rfl (by kernel_rfl) (by kernel_rfl) (by kernel_rfl) (by kernel_rfl) (fun _ _ _ h => h) (Or.inl ⟨by rfl, ?_⟩) hHeld ?_
    rotate_left
    · intro w' hSw; (try dsimp only at hSw); have hcf := (cell_of_row w' W.heap.size 0 _ _ _ hSw.2).trans K.out.1; go_simp <;> with_reducible rfl
    try simp only [Act.put, List.setIfInBounds_toArray, List.set_cons_zero, List.set_cons_succ]
    refine wpAnyE_take (i := 6) (oi := ({ dst := some 44, op := Op.fieldAddr 28 (Operand.tmp 3) 1, type := 0, pos := "match.go:126", after := #[], guard := none } : Oper)) (v := ?_) rfl (by kernel_rfl) (by kernel_rfl) (by kernel_rfl) (by kernel_rfl) (fun _ _ _ h => h) (Or.inl ⟨by rfl, ?_⟩) hHeld ?_
    rotate_left
    · intro w' hSw; (try dsimp only at hSw); go_simp <;> with_reducible rfl
    try simp only [Act.put, List.setIfInBounds_toArray, List.set_cons_zero, List.set_cons_succ]
    refine wpAnyE_take (i := 7) (oi := ({ dst := some 45, op := Op.fieldAddr 26 (Operand.tmp 44) 0, type := 0, pos := "match.go:126", after := #[{ on := 6, ground := Ground.data }], guard := none } : Oper)) (v := ?_) rfl (by kernel_rfl) (by kernel_rfl) (by kernel_rfl) (by kernel_rfl) (fun _ _ _ h => h) (Or.inl ⟨by rfl, ?_⟩) hHeld ?_
    rotate_left
    · intro w' hSw; (try dsimp only at hSw); go_simp <;> with_reducible rfl
    try simp only [Act.put, List.setIfInBounds_toArray, List.set_cons_zero, List.set_cons_succ]
    refine wpAnyE_take (i := 8) (oi := ({ dst := some 46, op := Op.load 9 (Operand.tmp 45), type := 9, pos := "match.go:126", after := #[{ on := 7, ground := Ground.data }], guard := none } : Oper)) (v := ?_) rfl (by kernel_rfl) (by kernel_rfl) (by kernel_rfl) (by kernel_rfl) (fun _ _ _ h => h) (Or.inl ⟨by rfl, ?_⟩) hHeld ?_
    rotate_left
    · intro w' hSw; (try dsimp only at hSw); have hcf := (cell_of_row w' W.heap.size 1 _ _ _ hSw.2).trans K.out.2.1; go_simp <;> with_reducible rfl
    try simp only [Act.put, List.setIfInBounds_toArray, List.set_cons_zero, List.set_cons_succ]
    refine wpAnyE_take (i := 9) (oi := ({ dst := some 47, op := Op.build 90 #[(0, Operand.tmp 43), (1, Operand.tmp 46)], type := 90, pos := "match.go:126", after := #[{ on := 5, ground := Ground.data }, { on := 8, ground := Ground.data }], guard := none } : Oper)) (v := ?_) rfl (by kernel_rfl) (by kernel_rfl) (by kernel_rfl) (by kernel_rfl) (fun _ _ _ h => h) (Or.inl ⟨by rfl, ?_⟩) hHeld ?_
    rotate_left
    · intro w' hSw; (try dsimp only at hSw); go_simp <;> with_reducible rfl
    try simp only [Act.put, List.setIfInBounds_toArray, List.set_cons_zero, List.set_cons_succ]
    refine wpAnyE_ready (rs := [10]) (by kernel_rfl) (by simp) ?_
    refine AllReadyE.cons (o := ({ dst := some 48, op := Op.lookup 77 (Operand.tmp 41) (Operand.tmp 47) true, type := 88, pos := "match.go:126", after := #[{ on := 3, ground := Ground.data }, { on := 9, ground := Ground.data }], guard := none } : Oper)) rfl (fun K hK => ?_) AllReadyE.nil
    rw [if_pos (by rfl)]
    refine wp_lookup_known 77 (.tmp 41) (.tmp 47) true rfl (.map (some m1)) (nameV p x.ref) (.tuple #[LV, .bool tw]) rfl rfl HLK.out ?_
    have hHeld2 : (show World → Prop from fun W1 => W1.heap[b]? = some (.cells #[.slice TA zs.length tc, .int .i64 tol, ev, .map (some m1), .map (some m2), pv] 82 (0, 0)) ∧ W1.heap[W.heap.size]? = some (.cells SC 28 (0, 0))) _ := hHeld
    refine hK.out _ _ (Or.inr hHeld2) (fun _ => ?_)
    clear hK K hHeld
    try clear hb
    have hHeld := hHeld2
    clear hHeld2
    try simp only [Act.put, List.setIfInBounds_toArray, List.set_cons_zero, List.set_cons_succ]
    refine wpAnyE_take (i := 11) (oi := ({ dst := some 37, op := Op.move (Operand.tmp 48), type := 88, pos := "match.go:126", after := #[{ on := 10, ground := Ground.data }], guard := none } : Oper)) (v := ?_) rfl (by kernel_rfl) (by kernel_rfl) (by kernel_rfl) (by kernel_rfl) (fun _ _ _ h => h) (Or.inl ⟨by rfl, ?_⟩) hHeld ?_
    rotate_left
    · intro w' hSw; (try dsimp only at hSw); go_simp <;> with_reducible rfl
    try simp only [Act.put, List.setIfInBounds_toArray, List.set_cons_zero, List.set_cons_succ]
    refine wpAnyE_take (i := 12) (oi := ({ dst := some 49, op := Op.extract (Operand.tmp 37) 0, type := 3, pos := "match.go:126", after := #[{ on := 11, ground := Ground.data }], guard := none } : Oper)) (v := ?_) rfl (by kernel_rfl) (by kernel_rfl) (by kernel_rfl) (by kernel_rfl) (fun _ _ _ h => h) (Or.inl ⟨by rfl, ?_⟩) hHeld ?_
    rotate_left
    · intro w' hSw; (try dsimp only at hSw); go_simp <;> with_reducible rfl
    try simp only [Act.put, List.setIfInBounds_toArray, List.set_cons_zero, List.set_cons_succ]
    refine wpAnyE_take (i := 13) (oi := ({ dst := some 50, op := Op.extract (Operand.tmp 37) 1, type := 4, pos := "match.go:126", after := #[{ on := 11, ground := Ground.data }, { on := 14, ground := Ground.gcOnly Departure.lateStores }], guard := none } : Oper)) (v := ?_) rfl (by kernel_rfl) (by kernel_rfl) (by kernel_rfl) (by kernel_rfl) (fun _ _ _ h => h) (Or.inl ⟨by rfl, ?_⟩) hHeld ?_
    rotate_left
    · intro w' hSw; (try dsimp only at hSw); go_simp <;> with_reducible rfl
    try simp only [Act.put, List.setIfInBounds_toArray, List.set_cons_zero, List.set_cons_succ]
    refine wpAnyE_take (i := 14) (oi := ({ dst := some 9, op := Op.assign (Operand.tmp 49), type := 3, pos := "match.go:126", after := #[{ on := 12, ground := Ground.data }, { on := 0, ground := Ground.phase }, { on := 1, ground := Ground.phase }, { on := 2, ground := Ground.phase }, { on := 3, ground := Ground.phase }, { on := 4, ground := Ground.phase }, { on := 5, ground := Ground.phase }, { on := 6, ground := Ground.phase }, { on := 7, ground := Ground.phase }, { on := 8, ground := Ground.phase }, { on := 9, ground := Ground.phase }, { on := 10, ground := Ground.phase }, { on := 11, ground := Ground.phase }, { on := 12, ground := Ground.phase }, { on := 13, ground := Ground.textOnly Departure.lateStores }], guard := none } : Oper)) (v := ?_) rfl (by kernel_rfl) (by kernel_rfl) (by kernel_rfl) (by kernel_rfl) (fun _ _ _ h => h) (Or.inl ⟨by rfl, ?_⟩) hHeld ?_
    rotate_left
    · intro w' hSw; (try dsimp only at hSw); go_simp <;> with_reducible rfl
    try simp only [Act.put, List.setIfInBounds_toArray, List.set_cons_zero, List.set_cons_succ]
    refine wpAnyE_take (i := 15) (oi := ({ dst := some 10, op := Op.assign (Operand.tmp 50), type := 4, pos := "match.go:126", after := #[{ on := 13, ground := Ground.data }, { on := 14, ground := Ground.chain }, { on := 0, ground := Ground.phase }, { on := 1, ground := Ground.phase }, { on := 2, ground := Ground.phase }, { on := 3, ground := Ground.phase }, { on := 4, ground := Ground.phase }, { on := 5, ground := Ground.phase }, { on := 6, ground := Ground.phase }, { on := 7, ground := Ground.phase }, { on := 8, ground := Ground.phase }, { on := 9, ground := Ground.phase }, { on := 10, ground := Ground.phase }, { on := 11, ground := Ground.phase }, { on := 12, ground := Ground.phase }, { on := 13, ground := Ground.phase }, { on := 14, ground := Ground.phase }], guard := none } : Oper)) (v := ?_) rfl (by kernel_rfl) (by kernel_rfl) (by kernel_rfl) (by kernel_rfl) (fun _ _ _ h => h) (Or.inl ⟨by rfl, ?_⟩) hHeld ?_
    rotate_left
    · intro w' hSw; (try dsimp only at hSw); go_simp <;> with_reducible rfl
    try simp only [Act.put, List.setIfInBounds_toArray, List.set_cons_zero, List.set_cons_succ]
    refine wpAnyE_done (by kernel_rfl) ?_ _
    clear hHeld HLK
    generalize w1.drew = W4 at HM4 HR4 HG4 HB4 ⊢
    have cC : W4.cell? ⟨W.heap.size, 3, none⟩ = some (.bool x.cancel) := (cell_of_row W4 W.heap.size 3 _ _ _ HG4.out).trans K.out.2.2
    cases hc : x.cancel with
    | true =>
      rw [hc] at cC
      have HAN3 : Hid (AN = 24) := Lib.hid (by rw [HAN2.out, hc]; rfl)
      clear HAN2
      go_wp2
      go_ret3
      exact HBAD.out (.mtch _ 24) W4 (by rw [HAN3.out]; decide) (by rw [HAN3.out]; rfl) (by simp) rfl HB4.out
    | false =>
      rw [hc] at cC
      have HAN3 : Hid (AN = if p < 0 ∨ (zs.length : Int) ≤ p then 10 else if tw = true then 11 else 0) := Lib.hid (by rw [HAN2.out, hc]; rfl)
      clear HAN2
      go_upto_region 11 with fail
      have HM5 := Lib.hid HM4.out.drew
      have HR5 := Lib.hid HR4.out.drew
      have HG5 : Hid (W4.drew.heap[W.heap.size]? = some (.cells SC 28 (0, 0))) := Lib.hid HG4.out
      have HB5 : Hid (Below W.heap.size W W4.drew) := Lib.hid (bl_drew HB4.out)
      clear HM4 HR4 HG4 HB4 cC
      by_cases hp0 : p < 0
      · have hpd : decide (p < 0) = true := by simp [hp0]
        have HAN4 : Hid (AN = 10) := Lib.hid (by rw [HAN3.out, if_pos (.inl hp0)])
        clear HAN3
        refine wp_region_heldE (S := fun W1 => W1.heap[b]? = some (.cells #[.slice TA zs.length tc, .int .i64 tol, ev, .map (some m1), .map (some m2), pv] 82 (0, 0)) ∧ W1.heap[W.heap.size]? = some (.cells SC 28 (0, 0))) (ds := []) (by kernel_rfl) (⟨HM5.out.book, HG5.out⟩) (fun hHeld => ?_)
        refine wpAnyE_take (i := 0) (oi := ({ dst := some 58, op := Op.fieldAddr 28 (Operand.tmp 3) 0, type := 0, pos := "match.go:129", after := #[], guard := none } : Oper)) (v := ?_) rfl (by kernel_rfl) (by kernel_rfl) (by kernel_rfl) (by kernel_rfl) (fun _ _ _ h => h) (Or.inl ⟨by rfl, ?_⟩) hHeld ?_
        rotate_left
        · intro w' hSw; (try dsimp only at hSw); go_simp <;> with_reducible rfl
        try simp only [Act.put, List.setIfInBounds_toArray, List.set_cons_zero, List.set_cons_succ]
        refine wpAnyE_take (i := 1) (oi := ({ dst := some 59, op := Op.load 3 (Operand.tmp 58), type := 3, pos := "match.go:129", after := #[{ on := 0, ground := Ground.data }], guard := none } : Oper)) (v := ?_) rfl (by kernel_rfl) (by kernel_rfl) (by kernel_rfl) (by kernel_rfl) (fun _ _ _ h => h) (Or.inl ⟨by rfl, ?_⟩) hHeld ?_
        rotate_left
        · intro w' hSw; (try dsimp only at hSw); have hcf := (cell_of_row w' W.heap.size 0 _ _ _ hSw.2).trans K.out.1; go_simp <;> with_reducible rfl
        try simp only [Act.put, List.setIfInBounds_toArray, List.set_cons_zero, List.set_cons_succ]
        refine wpAnyE_take (i := 2) (oi := ({ dst := some 60, op := Op.binOp BinOp.lss 3 (Operand.tmp 59) (Operand.const (Value.int IntKind.i64 0)) 3, type := 4, pos := "match.go:129", after := #[{ on := 1, ground := Ground.data }], guard := none } : Oper)) (v := ?_) rfl (by kernel_rfl) (by kernel_rfl) (by kernel_rfl) (by kernel_rfl) (fun _ _ _ h => h) (Or.inl ⟨by rfl, ?_⟩) hHeld ?_
        rotate_left
        · intro w' hSw; (try dsimp only at hSw); go_simp <;> with_reducible rfl
        try simp only [Act.put, List.setIfInBounds_toArray, List.set_cons_zero, List.set_cons_succ]
        refine wpAnyE_take (i := 3) (oi := ({ dst := some 61, op := Op.move (Operand.tmp 60), type := 4, pos := "match.go:129", after := #[{ on := 2, ground := Ground.data }], guard := none } : Oper)) (v := ?_) rfl (by kernel_rfl) (by kernel_rfl) (by kernel_rfl) (by kernel_rfl) (fun _ _ _ h => h) (Or.inl ⟨by rfl, ?_⟩) hHeld ?_
        rotate_left
        · intro w' hSw; (try dsimp only at hSw); go_simp <;> with_reducible rfl
        try simp only [Act.put, List.setIfInBounds_toArray, List.set_cons_zero, List.set_cons_succ]
        refine wpAnyE_take (i := 4) (oi := ({ dst := some 62, op := Op.fieldAddr 28 (Operand.tmp 3) 0, type := 0, pos := "match.go:129", after := #[{ on := 3, ground := Ground.guard }], guard := some (3, false) } : Oper)) (v := undef) rfl (by kernel_rfl) (by kernel_rfl) (by kernel_rfl) (by kernel_rfl) (fun _ _ _ h => h) (Or.inr ⟨by rfl, rfl⟩) hHeld ?_
        try simp only [Act.put, List.setIfInBounds_toArray, List.set_cons_zero, List.set_cons_succ]
        refine wpAnyE_take (i := 5) (oi := ({ dst := some 63, op := Op.load 3 (Operand.tmp 62), type := 3, pos := "match.go:129", after := #[{ on := 4, ground := Ground.data }, { on := 3, ground := Ground.guard }], guard := some (3, false) } : Oper)) (v := undef) rfl (by kernel_rfl) (by kernel_rfl) (by kernel_rfl) (by kernel_rfl) (fun _ _ _ h => h) (Or.inr ⟨by rfl, rfl⟩) hHeld ?_
        try simp only [Act.put, List.setIfInBounds_toArray, List.set_cons_zero, List.set_cons_succ]
        refine wpAnyE_take (i := 6) (oi := ({ dst := some 64, op := Op.move (Operand.tmp 0), type := 33, pos := "match.go:129", after := #[{ on := 3, ground := Ground.guard }], guard := some (3, false) } : Oper)) (v := undef) rfl (by kernel_rfl) (by kernel_rfl) (by kernel_rfl) (by kernel_rfl) (fun _ _ _ h => h) (Or.inr ⟨by rfl, rfl⟩) hHeld ?_
        try simp only [Act.put, List.setIfInBounds_toArray, List.set_cons_zero, List.set_cons_succ]
        refine wpAnyE_take (i := 7) (oi := ({ dst := some 65, op := Op.nilCheck (Operand.tmp 64), type := 0, pos := "match.go:129", after := #[{ on := 6, ground := Ground.data }, { on := 3, ground := Ground.guard }], guard := some (3, false) } : Oper)) (v := undef) rfl (by kernel_rfl) (by kernel_rfl) (by kernel_rfl) (by kernel_rfl) (fun _ _ _ h => h) (Or.inr ⟨by rfl, rfl⟩) hHeld ?_
        try simp only [Act.put, List.setIfInBounds_toArray, List.set_cons_zero, List.set_cons_succ]
        refine wpAnyE_take (i := 8) (oi := ({ dst := some 66, op := Op.fieldAddr 82 (Operand.tmp 65) 0, type := 0, pos := "match.go:129", after := #[{ on := 7, ground := Ground.data }, { on := 3, ground := Ground.guard }], guard := some (3, false) } : Oper)) (v := undef) rfl (by kernel_rfl) (by kernel_rfl) (by kernel_rfl) (by kernel_rfl) (fun _ _ _ h => h) (Or.inr ⟨by rfl, rfl⟩) hHeld ?_
        try simp only [Act.put, List.setIfInBounds_toArray, List.set_cons_zero, List.set_cons_succ]
        refine wpAnyE_take (i := 9) (oi := ({ dst := some 67, op := Op.load 29 (Operand.tmp 66), type := 29, pos := "match.go:129", after := #[{ on := 8, ground := Ground.data }, { on := 3, ground := Ground.guard }], guard := some (3, false) } : Oper)) (v := undef) rfl (by kernel_rfl) (by kernel_rfl) (by kernel_rfl) (by kernel_rfl) (fun _ _ _ h => h) (Or.inr ⟨by rfl, rfl⟩) hHeld ?_
        try simp only [Act.put, List.setIfInBounds_toArray, List.set_cons_zero, List.set_cons_succ]
        refine wpAnyE_take (i := 10) (oi := ({ dst := some 68, op := Op.call { callee := Callee.builtin Builtin.len, args := #[Operand.tmp 67], argTypes := #[29] }, type := 3, pos := "match.go:129", after := #[{ on := 9, ground := Ground.data }, { on := 3, ground := Ground.guard }], guard := some (3, false) } : Oper)) (v := undef) rfl (by kernel_rfl) (by kernel_rfl) (by kernel_rfl) (by kernel_rfl) (fun _ _ _ h => h) (Or.inr ⟨by rfl, rfl⟩) hHeld ?_
        try simp only [Act.put, List.setIfInBounds_toArray, List.set_cons_zero, List.set_cons_succ]
        refine wpAnyE_take (i := 11) (oi := ({ dst := some 69, op := Op.binOp BinOp.geq 3 (Operand.tmp 63) (Operand.tmp 68) 3, type := 4, pos := "match.go:129", after := #[{ on := 5, ground := Ground.data }, { on := 10, ground := Ground.data }, { on := 3, ground := Ground.guard }], guard := some (3, false) } : Oper)) (v := undef) rfl (by kernel_rfl) (by kernel_rfl) (by kernel_rfl) (by kernel_rfl) (fun _ _ _ h => h) (Or.inr ⟨by rfl, rfl⟩) hHeld ?_
        try simp only [Act.put, List.setIfInBounds_toArray, List.set_cons_zero, List.set_cons_succ]
        refine wpAnyE_take (i := 12) (oi := ({ dst := some 70, op := Op.pick (Operand.tmp 61) (Operand.const (Value.bool true)) (Operand.tmp 69), type := 4, pos := "match.go:129", after := #[{ on := 3, ground := Ground.data }, { on := 11, ground := Ground.data }], guard := none } : Oper)) (v := ?_) rfl (by kernel_rfl) (by kernel_rfl) (by kernel_rfl) (by kernel_rfl) (fun _ _ _ h => h) (Or.inl ⟨by rfl, ?_⟩) hHeld ?_
        rotate_left
        · intro w' hSw; (try dsimp only at hSw); go_simp <;> with_reducible rfl
        try simp only [Act.put, List.setIfInBounds_toArray, List.set_cons_zero, List.set_cons_succ]
        refine wpAnyE_take (i := 13) (oi := ({ dst := some 57, op := Op.assign (Operand.tmp 70), type := 4, pos := "match.go:129", after := #[{ on := 12, ground := Ground.data }, { on := 3, ground := Ground.chain }], guard := none } : Oper)) (v := ?_) rfl (by kernel_rfl) (by kernel_rfl) (by kernel_rfl) (by kernel_rfl) (fun _ _ _ h => h) (Or.inl ⟨by rfl, ?_⟩) hHeld ?_
        rotate_left
        · intro w' hSw; (try dsimp only at hSw); go_simp <;> with_reducible rfl
        try simp only [Act.put, List.setIfInBounds_toArray, List.set_cons_zero, List.set_cons_succ]
        refine wpAnyE_done (by kernel_rfl) ?_ _
        generalize W4.drew = W5 at HM5 HR5 HG5 HB5 ⊢
        clear hHeld
        go_wp2
        go_ret3
        exact HBAD.out (.mtch _ 10) W5 (by rw [HAN4.out]; decide) (by rw [HAN4.out]; rfl) (by simp) rfl HB5.out
      · have hpd : decide (p < 0) = false := by simp [hp0]
        refine wp_region_heldE (S := fun W1 => W1.heap[b]? = some (.cells #[.slice TA zs.length tc, .int .i64 tol, ev, .map (some m1), .map (some m2), pv] 82 (0, 0)) ∧ W1.heap[W.heap.size]? = some (.cells SC 28 (0, 0))) (ds := []) (by kernel_rfl) (⟨HM5.out.book, HG5.out⟩) (fun hHeld => ?_)
        refine wpAnyE_take (i := 0) (oi := ({ dst := some 58, op := Op.fieldAddr 28 (Operand.tmp 3) 0, type := 0, pos := "match.go:129", after := #[], guard := none } : Oper)) (v := ?_) rfl (by kernel_rfl) (by kernel_rfl) (by kernel_rfl) (by kernel_rfl) (fun _ _ _ h => h) (Or.inl ⟨by rfl, ?_⟩) hHeld ?_
        rotate_left
        · intro w' hSw; (try dsimp only at hSw); go_simp <;> with_reducible rfl
        try simp only [Act.put, List.setIfInBounds_toArray, List.set_cons_zero, List.set_cons_succ]
        refine wpAnyE_take (i := 1) (oi := ({ dst := some 59, op := Op.load 3 (Operand.tmp 58), type := 3, pos := "match.go:129", after := #[{ on := 0, ground := Ground.data }], guard := none } : Oper)) (v := ?_) rfl (by kernel_rfl) (by kernel_rfl) (by kernel_rfl) (by kernel_rfl) (fun _ _ _ h => h) (Or.inl ⟨by rfl, ?_⟩) hHeld ?_
        rotate_left
        · intro w' hSw; (try dsimp only at hSw); have hcf := (cell_of_row w' W.heap.size 0 _ _ _ hSw.2).trans K.out.1; go_simp <;> with_reducible rfl
        try simp only [Act.put, List.setIfInBounds_toArray, List.set_cons_zero, List.set_cons_succ]
        refine wpAnyE_take (i := 2) (oi := ({ dst := some 60, op := Op.binOp BinOp.lss 3 (Operand.tmp 59) (Operand.const (Value.int IntKind.i64 0)) 3, type := 4, pos := "match.go:129", after := #[{ on := 1, ground := Ground.data }], guard := none } : Oper)) (v := ?_) rfl (by kernel_rfl) (by kernel_rfl) (by kernel_rfl) (by kernel_rfl) (fun _ _ _ h => h) (Or.inl ⟨by rfl, ?_⟩) hHeld ?_
        rotate_left
        · intro w' hSw; (try dsimp only at hSw); go_simp <;> with_reducible rfl
        try simp only [Act.put, List.setIfInBounds_toArray, List.set_cons_zero, List.set_cons_succ]
        refine wpAnyE_take (i := 3) (oi := ({ dst := some 61, op := Op.move (Operand.tmp 60), type := 4, pos := "match.go:129", after := #[{ on := 2, ground := Ground.data }], guard := none } : Oper)) (v := ?_) rfl (by kernel_rfl) (by kernel_rfl) (by kernel_rfl) (by kernel_rfl) (fun _ _ _ h => h) (Or.inl ⟨by rfl, ?_⟩) hHeld ?_
        rotate_left
        · intro w' hSw; (try dsimp only at hSw); go_simp <;> with_reducible rfl
        try simp only [Act.put, List.setIfInBounds_toArray, List.set_cons_zero, List.set_cons_succ]
        refine wpAnyE_take (i := 4) (oi := ({ dst := some 62, op := Op.fieldAddr 28 (Operand.tmp 3) 0, type := 0, pos := "match.go:129", after := #[{ on := 3, ground := Ground.guard }], guard := some (3, false) } : Oper)) (v := ?_) rfl (by kernel_rfl) (by kernel_rfl) (by kernel_rfl) (by kernel_rfl) (fun _ _ _ h => h) (Or.inl ⟨by rfl, ?_⟩) hHeld ?_
        rotate_left
        · intro w' hSw; (try dsimp only at hSw); go_simp <;> with_reducible rfl
        try simp only [Act.put, List.setIfInBounds_toArray, List.set_cons_zero, List.set_cons_succ]
        refine wpAnyE_take (i := 5) (oi := ({ dst := some 63, op := Op.load 3 (Operand.tmp 62), type := 3, pos := "match.go:129", after := #[{ on := 4, ground := Ground.data }, { on := 3, ground := Ground.guard }], guard := some (3, false) } : Oper)) (v := ?_) rfl (by kernel_rfl) (by kernel_rfl) (by kernel_rfl) (by kernel_rfl) (fun _ _ _ h => h) (Or.inl ⟨by rfl, ?_⟩) hHeld ?_
        rotate_left
        · intro w' hSw; (try dsimp only at hSw); have hcf := (cell_of_row w' W.heap.size 0 _ _ _ hSw.2).trans K.out.1; go_simp <;> with_reducible rfl
        try simp only [Act.put, List.setIfInBounds_toArray, List.set_cons_zero, List.set_cons_succ]
        refine wpAnyE_take (i := 6) (oi := ({ dst := some 64, op := Op.move (Operand.tmp 0), type := 33, pos := "match.go:129", after := #[{ on := 3, ground := Ground.guard }], guard := some (3, false) } : Oper)) (v := ?_) rfl (by kernel_rfl) (by kernel_rfl) (by kernel_rfl) (by kernel_rfl) (fun _ _ _ h => h) (Or.inl ⟨by rfl, ?_⟩) hHeld ?_
        rotate_left
        · intro w' hSw; (try dsimp only at hSw); go_simp <;> with_reducible rfl
        try simp only [Act.put, List.setIfInBounds_toArray, List.set_cons_zero, List.set_cons_succ]
        refine wpAnyE_take (i := 7) (oi := ({ dst := some 65, op := Op.nilCheck (Operand.tmp 64), type := 0, pos := "match.go:129", after := #[{ on := 6, ground := Ground.data }, { on := 3, ground := Ground.guard }], guard := some (3, false) } : Oper)) (v := ?_) rfl (by kernel_rfl) (by kernel_rfl) (by kernel_rfl) (by kernel_rfl) (fun _ _ _ h => h) (Or.inl ⟨by rfl, ?_⟩) hHeld ?_
        rotate_left
        · intro w' hSw; (try dsimp only at hSw); go_simp <;> with_reducible rfl
        try simp only [Act.put, List.setIfInBounds_toArray, List.set_cons_zero, List.set_cons_succ]
        refine wpAnyE_take (i := 8) (oi := ({ dst := some 66, op := Op.fieldAddr 82 (Operand.tmp 65) 0, type := 0, pos := "match.go:129", after := #[{ on := 7, ground := Ground.data }, { on := 3, ground := Ground.guard }], guard := some (3, false) } : Oper)) (v := ?_) rfl (by kernel_rfl) (by kernel_rfl) (by kernel_rfl) (by kernel_rfl) (fun _ _ _ h => h) (Or.inl ⟨by rfl, ?_⟩) hHeld ?_
        rotate_left
        · intro w' hSw; (try dsimp only at hSw); go_simp <;> with_reducible rfl
        try simp only [Act.put, List.setIfInBounds_toArray, List.set_cons_zero, List.set_cons_succ]
        refine wpAnyE_take (i := 9) (oi := ({ dst := some 67, op := Op.load 29 (Operand.tmp 66), type := 29, pos := "match.go:129", after := #[{ on := 8, ground := Ground.data }, { on := 3, ground := Ground.guard }], guard := some (3, false) } : Oper)) (v := ?_) rfl (by kernel_rfl) (by kernel_rfl) (by kernel_rfl) (by kernel_rfl) (fun _ _ _ h => h) (Or.inl ⟨by rfl, ?_⟩) hHeld ?_
        rotate_left
        · intro w' hSw; (try dsimp only at hSw); have hcf := cell_of_row w' b 0 _ _ _ hSw.1; go_simp <;> with_reducible rfl
        try simp only [Act.put, List.setIfInBounds_toArray, List.set_cons_zero, List.set_cons_succ]
        refine wpAnyE_take (i := 10) (oi := ({ dst := some 68, op := Op.call { callee := Callee.builtin Builtin.len, args := #[Operand.tmp 67], argTypes := #[29] }, type := 3, pos := "match.go:129", after := #[{ on := 9, ground := Ground.data }, { on := 3, ground := Ground.guard }], guard := some (3, false) } : Oper)) (v := ?_) rfl (by kernel_rfl) (by kernel_rfl) (by kernel_rfl) (by kernel_rfl) (fun _ _ _ h => h) (Or.inl ⟨by rfl, ?_⟩) hHeld ?_
        rotate_left
        · intro w' hSw; (try dsimp only at hSw); go_simp <;> with_reducible rfl
        try simp only [Act.put, List.setIfInBounds_toArray, List.set_cons_zero, List.set_cons_succ]
        refine wpAnyE_take (i := 11) (oi := ({ dst := some 69, op := Op.binOp BinOp.geq 3 (Operand.tmp 63) (Operand.tmp 68) 3, type := 4, pos := "match.go:129", after := #[{ on := 5, ground := Ground.data }, { on := 10, ground := Ground.data }, { on := 3, ground := Ground.guard }], guard := some (3, false) } : Oper)) (v := ?_) rfl (by kernel_rfl) (by kernel_rfl) (by kernel_rfl) (by kernel_rfl) (fun _ _ _ h => h) (Or.inl ⟨by rfl, ?_⟩) hHeld ?_
        rotate_left
        · intro w' hSw; (try dsimp only at hSw); go_simp <;> with_reducible rfl
        try simp only [Act.put, List.setIfInBounds_toArray, List.set_cons_zero, List.set_cons_succ]
        refine wpAnyE_take (i := 12) (oi := ({ dst := some 70, op := Op.pick (Operand.tmp 61) (Operand.const (Value.bool true)) (Operand.tmp 69), type := 4, pos := "match.go:129", after := #[{ on := 3, ground := Ground.data }, { on := 11, ground := Ground.data }], guard := none } : Oper)) (v := ?_) rfl (by kernel_rfl) (by kernel_rfl) (by kernel_rfl) (by kernel_rfl) (fun _ _ _ h => h) (Or.inl ⟨by rfl, ?_⟩) hHeld ?_
        rotate_left
        · intro w' hSw; (try dsimp only at hSw); go_simp <;> with_reducible rfl
        try simp only [Act.put, List.setIfInBounds_toArray, List.set_cons_zero, List.set_cons_succ]
        refine wpAnyE_take (i := 13) (oi := ({ dst := some 57, op := Op.assign (Operand.tmp 70), type := 4, pos := "match.go:129", after := #[{ on := 12, ground := Ground.data }, { on := 3, ground := Ground.chain }], guard := none } : Oper)) (v := ?_) rfl (by kernel_rfl) (by kernel_rfl) (by kernel_rfl) (by kernel_rfl) (fun _ _ _ h => h) (Or.inl ⟨by rfl, ?_⟩) hHeld ?_
        rotate_left
        · intro w' hSw; (try dsimp only at hSw); go_simp <;> with_reducible rfl
        try simp only [Act.put, List.setIfInBounds_toArray, List.set_cons_zero, List.set_cons_succ]
        refine wpAnyE_done (by kernel_rfl) ?_ _
        generalize W4.drew = W5 at HM5 HR5 HG5 HB5 ⊢
        clear hHeld
        by_cases hp1 : (zs.length : Int) ≤ p
        · have hpe : decide ((zs.length : Int) ≤ p) = true := by simp [hp1]
          have HAN4 : Hid (AN = 10) := Lib.hid (by rw [HAN3.out, if_pos (.inr hp1)])
          clear HAN3
          go_wp2
          go_ret3
          exact HBAD.out (.mtch _ 10) W5 (by rw [HAN4.out]; decide) (by rw [HAN4.out]; rfl) (by simp) rfl HB5.out
        · have hpe : decide ((zs.length : Int) ≤ p) = false := by simp [hp1]
          have HAN4 : Hid (AN = if tw = true then 11 else 0) := Lib.hid (by rw [HAN3.out, if_neg (fun h => h.elim hp0 hp1)])
          clear HAN3
          cases tw with
          | true =>
            have HAN5 : Hid (AN = 11) := Lib.hid (by rw [HAN4.out]; rfl)
            clear HAN4
            go_wp2
            go_ret3
            exact HBAD.out (.mtch _ 11) W5 (by rw [HAN5.out]; decide) (by rw [HAN5.out]; rfl) (by simp) rfl HB5.out
          | false =>
            have HAN5 : Hid (AN = 0) := Lib.hid (by rw [HAN4.out]; rfl)
            clear HAN4
            go_upto_if 73 with fail
            refine wp_cond_false rfl (wp_skip ?_)
            rename_i hK15 _hy _hz
            refine hK15 _ _ ?_
            exact add_tail15 (F := F) (w := W) (lx := lx) _ _ _ _ _ _ _ _ _ _ _ _ _ _ _ _ _ _ _ _ _ _ _ _ _ _ _ _ _ _ _ _ _ _ _ _ _ _ _ _ _ _ _ _ _ _ _ _ _ _ _ _ _ _ _ _ _ _ _ _ _ _ _ _ _ _ _ _ _ _ _ _ _ _ _ _ _ _ _ _ _ _ _ _ _ _ _ _ _ _ _ _ _ _ _ _ _ _ _ _ _ _ _ _ _ _ _ _ _ _ _ _ _ _ _ _ _ _ _ _ _ _ _ _ _ _ _ _ _ _ _ _ _ _ _ _ _ _ _ _ _ _ _ _ _ _ _ _ _ _ _ _ _ _ _ _ _ _ _ _ _ _ _ _ _ _ _ _ _ _ _ _ _ _ _ _ _ _ _ _ _ _ _ _ _ _ _ _ _ _ _ _ _ _ _ _ _ _ _ _ _ _ _ _ _ _ _ _ _ _ _ _ _ _ _ _ _ _ _ _ _ _ _ _ _ _ HM5.out HR5.out HSS.out HWW.out HX.out HP.out (HRL.out.below HB5.out) (by have := HLN.out; omega) HTW.out HSH.out HT.out HPW.out HPF.out (by rw [← HSC.out]; exact HG5.out) HEL.out HZL.out HPL.out (HPO.out HAN5.out)
  · have hne : ∀ w, (binOp .neq 36 E.val .nilIface).run Tryz.prog w = .ok (.bool true) w := fun w => by rw [neq_nil_err, GErr.isNil_false hE]; rfl
    have hr : 1 ≤ E.num ∧ E.num ≤ 24 := by
      rcases HEO.out with h | h
      · exact absurd h hE
      · exact h
    have hAN : AN = E.num := by
      rw [HAN.out, ← HEN.out, if_pos (by omega)]
    have HAN2 := Lib.hid hAN
    have hgn := fun x c w => guard_errN E x c w
    have HE1 := Lib.hid hE
    clear HAN HM0 HR0 HRL hAN
    obtain ⟨h1, h2⟩ := hr
    go_wp2
    go_loopg [8] 24 (fun g vi wr => ∃ k : Nat, vi = .int .i64 k ∧ 1 ≤ k ∧ (k : Int) ≤ E.num ∧ 24 - k ≤ g ∧ Hid (Below W.heap.size W wr))
    case atStart => exact ⟨1, rfl, by omega, by omega, by omega, HB3⟩
    case round =>
      clear HB3 HG3
      obtain ⟨k, rfl, hk1, hk2, hg, HB⟩ := hrel
      have hk24 : (k : Int) ≤ 24 := by omega
      by_cases he : E.num = k
      · go_wp2_with (go_at_call 31; refine (is_err E HEP.out k (.inr HE1.out) _ true (by simp [he])).mono ?_; rintro e w2 ⟨rfl, hb1⟩; have HB4 := Lib.hid (bl_then HB.out hb1); clear hb1)
        go_ret3
        exact HBAD.out (.mtch _ k) w2 (by rw [HAN2.out]; omega) (by rw [HAN2.out, he]; rfl) (by simp) rfl HB4.out
      · go_wp2_with (go_at_call 31; refine (is_err E HEP.out k (.inr HE1.out) _ false (by simp [he])).mono ?_; rintro e w2 ⟨rfl, hb1⟩; have HB4 := Lib.hid (bl_then HB.out hb1); clear hb1)
        go_roundg (24 - (k + 1))
        case measure => omega
        case rel => exact ⟨k + 1, by go_num, by omega, by omega, by omega, HB4⟩
end Go.Proofs.YtphabkaiheplpaaGreatDoor
