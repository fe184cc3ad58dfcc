/- match.Fit by contract. -/
import Derived.Test.YtccnfklemalmeaaDoorFace
set_option linter.unusedVariables false
set_option linter.unusedSimpArgs false
set_option maxRecDepth 100000
namespace Go.Proofs.YtccnfklemalmeaaDoor
open Go.RowKit Go.Shelf

theorem side_size : (Tryd.prog.info? 59).map (·.size) = some 28 := by kernel_rfl
theorem side_desc : (match Tryd.prog.underlying 59 with | some (.struct _) => true | _ => false) = true := by kernel_rfl
theorem load_side (p : Int) (x : Nt) (W : World) (g : Nat) (T : TypeId) (hg : W.heap[g]? = some (.cells (sideC p x) T (0, 0))) : (loadVar 59 ⟨g, 0, none⟩).run Tryd.prog W = .ok (.agg (sideC p x)) W := by
  have hd := side_desc
  cases hu : Tryd.prog.underlying 59 with
  | none => rw [hu] at hd; cases hd
  | some d =>
    rw [hu] at hd
    refine loadVar_part Tryd.prog W g 0 _ (sideC p x).toList d hu (by cases d <;> simp_all) side_size fun j v hv => ?_
    rw [cell_of_row W g (0 + j) _ T _ hg, Nat.zero_add, ← Array.getElem?_toList]
    exact hv
structure Fc.wf (f : Fc) : Prop where
  trade : I64 f.trade
  settle : I64 f.settle
  code : ∀ i, 0 ≤ f.code i ∧ f.code i ≤ 255
  qty : I64 f.qty
  cur : f.cur.size ≤ maxLen
  from_ : f.from_.size ≤ maxLen
  to_ : f.to_.size ≤ maxLen
  s : ∀ i, (f.s i).size ≤ maxLen
  b : ∀ i, (f.b i).size ≤ maxLen
theorem face_key : Tryd.prog.keyTypeAt 5 109 = true := by kernel_rfl
theorem face_formed (f : Fc) : (Value.agg (faceC f)).formed Tryd.prog 109 = true := by kernel_rfl
def faceL (f : Fc) : List Lit := [.int .i64 f.trade, .int .i64 f.settle,
  .int .u8 (f.code 0), .int .u8 (f.code 1), .int .u8 (f.code 2), .int .u8 (f.code 3), .int .u8 (f.code 4), .int .u8 (f.code 5), .int .u8 (f.code 6), .int .u8 (f.code 7), .int .u8 (f.code 8), .int .u8 (f.code 9), .int .u8 (f.code 10), .int .u8 (f.code 11),
  .int .i64 f.qty, .bool f.pay, .string f.cur.data.toList, .string f.from_.data.toList, .string f.to_.data.toList, .string (f.s 0).data.toList, .string (f.s 1).data.toList, .string (f.s 2).data.toList, .string (f.s 3).data.toList, .string (f.b 0).data.toList, .string (f.b 1).data.toList, .string (f.b 2).data.toList, .string (f.b 3).data.toList, .bool f.rcv, .bool f.right]
theorem i64_lit {n : Int} (h : I64 n) : (Lit.int .i64 n).wf = true := by
  unfold I64 at h
  have h1 : IntKind.i64.min = -9223372036854775808 := by decide
  have h2 : IntKind.i64.max = 9223372036854775807 := by decide
  simp only [Lit.wf, h1, h2, h.1, h.2, decide_true, Bool.and_self]
theorem u8_lit {n : Int} (h : 0 ≤ n ∧ n ≤ 255) : (Lit.int .u8 n).wf = true := by
  have h1 : IntKind.u8.min = 0 := by decide
  have h2 : IntKind.u8.max = 255 := by decide
  simp only [Lit.wf, h1, h2, h.1, h.2, decide_true, Bool.and_self]
set_option maxHeartbeats 2000000 in
theorem face_lits (f : Fc) (h : f.wf) : Tryd.prog.keyLits 5 109 (faceC f).toList = some (faceL f) := by
  have u0 := Tryd.underlying109
  have u1 := Tryd.underlying54
  have u2 := Tryd.underlying5
  have u3 := Tryd.underlying107
  have u4 := Tryd.underlying9
  have u5 := Tryd.underlying3
  have u6 := Tryd.underlying2
  have u7 := Tryd.underlying4
  have c0 : Tryd.prog.cellsOf 109 = 29 := by kernel_rfl
  have c1 : Tryd.prog.cellsOf 54 = 12 := by kernel_rfl
  have c2 : Tryd.prog.cellsOf 5 = 1 := by kernel_rfl
  have c3 : Tryd.prog.cellsOf 107 = 4 := by kernel_rfl
  have c4 : Tryd.prog.cellsOf 9 = 1 := by kernel_rfl
  have c5 : Tryd.prog.cellsOf 3 = 1 := by kernel_rfl
  have c6 : Tryd.prog.cellsOf 2 = 1 := by kernel_rfl
  have c7 : Tryd.prog.cellsOf 4 = 1 := by kernel_rfl
  have w1 := i64_lit h.trade
  have w2 := i64_lit h.settle
  have w3 := i64_lit h.qty
  have w4 := fun i => u8_lit (h.code i)
  have l1 := h.cur
  have l2 := h.from_
  have l3 := h.to_
  have l4 := h.s
  have l5 := h.b
  simp [faceC, faceL, Program.keyLits, u0, u1, u2, u3, u4, u5, u6, u7, c0, c1, c2, c3, c4, c5, c6, c7, w1, w2, w3, w4, l1, l2, l3, l4, l5, List.range, List.range.loop]
open Classical in
noncomputable def sameFace (f g : Fc) : Bool := decide (faceL f = faceL g)
theorem face_neq (f g : Fc) (hf : f.wf) (hg : g.wf) (w : World) : (binOp .neq 109 (.agg (faceC f)) (.agg (faceC g))).run Tryd.prog w = .ok (.bool (!sameFace f g)) w :=
  neq_lits (m := 5) (by decide) face_key (face_formed f) (face_formed g) (face_lits f hf) (face_lits g hg) (by unfold sameFace; simp) w
theorem faceC_size (f : Fc) : (faceC f).size = 29 := rfl
theorem setRow_alloc (W : World) (o : Obj) (g : Nat) (vs : Array Value) (h : g < W.heap.size) : (W.alloc o).setRow g vs = (W.setRow g vs).alloc o := by
  unfold World.setRow World.alloc
  congr 1
  apply Array.ext
  · simp
  · intro k h1 h2
    simp only [Array.getElem_modify, Array.getElem_push, Array.size_modify]
    by_cases hk : k < W.heap.size
    · simp [hk]
    · have : k = W.heap.size := by simp at h2; omega
      have hne : ¬ g = k := by omega
      simp [hk, hne]
theorem store_face_new (f : Fc) (W : World) (n : Nat) (hn : n = W.heap.size) (old : Array Value) (ho : old.size = 29) (T : TypeId) : (storeVar 109 ⟨n, 0, none⟩ (.agg (faceC f))).run Tryd.prog (W.alloc (.cells old T)) = .ok () (W.alloc (.cells (faceC f) T)) := by
  subst hn
  exact storeVar_new Tryd.prog W T _ old (faceC f) face_size (by rw [ho]; rfl) (faceC_one f)
theorem store_face_under (f : Fc) (W : World) (n : Nat) (hn : n = W.heap.size) (old : Array Value) (ho : old.size = 29) (T : TypeId) (o : Obj) : (storeVar 109 ⟨n, 0, none⟩ (.agg (faceC f))).run Tryd.prog ((W.alloc (.cells old T)).alloc o) = .ok () ((W.alloc (.cells (faceC f) T)).alloc o) := by
  subst hn
  have hg : ((W.alloc (.cells old T)).alloc o).heap[W.heap.size]? = some (.cells old T (0, 0)) := by rw [heap_alloc_old _ _ (by simp)]; exact heap_alloc_new W _
  rw [run_storeVar_row _ W.heap.size T _ old (faceC f) hg face_size (by rw [ho]; rfl) (faceC_one f), setRow_alloc _ _ _ _ (by simp), setRow_new]
theorem faceOf_agg (p : Int) (x : Nt) (A : Option Addr) (n c : Nat) (zs : List ByteArray) {w W : World} (hB : Below w.heap.size w W) (hp : I64 p) (hx : x.wf) (hr : RdT w A n zs) (hsh : Short zs) (hn : n ≤ 140737488351232) (hpw : PowT w) :
    Calls Tryd.prog 58 #[.agg (sideC p x), .slice A n c] W fun e w' => e = .returned (.tuple #[.agg (faceC (faceE p x zs)), .agg (faceC (faceO p x zs))]) ∧ Below W.heap.size W w' :=
  faceOf_any p x A n c zs W hp hx (hr.below hB) hsh hn (hpw.below hB)
theorem faceE_wf (p : Int) (x : Nt) (zs : List ByteArray) (hx : x.wf) (hsh : Short zs) : (faceE p x zs).wf := by
  have hD : (faceD p x zs).wf := by
    have m : ∀ s : ByteArray, s.size ≤ 140737488351232 → s.size ≤ maxLen := fun s h => by unfold maxLen; omega
    have hB : (faceB x).wf := ⟨hx.trade, hx.settle, hx.code, hx.qty, by show ByteArray.size (if x.pay = true then x.currency else ⟨#[]⟩) ≤ maxLen; split; exact m _ hx.currency; exact Nat.zero_le _, m _ hx.account, m _ hx.other, fun i => Nat.zero_le _, fun i => Nat.zero_le _⟩
    unfold faceD
    split
    · exact ⟨hB.trade, hB.settle, hB.code, hB.qty, hB.cur, hB.from_, hB.to_, fun i => bicP_le _ i (hsh _), fun i => bicP_le _ i hx.agent⟩
    · exact hB
  unfold faceE
  split
  · exact ⟨hD.trade, hD.settle, hD.code, hD.qty, hD.cur, hD.to_, hD.from_, hD.b, hD.s⟩
  · exact hD
theorem faceO_wf (p : Int) (x : Nt) (zs : List ByteArray) (hx : x.wf) (hsh : Short zs) : (faceO p x zs).wf := by
  have h := faceE_wf p x zs hx hsh
  exact ⟨h.trade, h.settle, h.code, h.qty, h.cur, h.from_, h.to_, h.s, h.b⟩
/-- Both sides and the first two faces lie in memory. -/
structure FtI (w W : World) (b : Nat) (C D E O : Array Value) : Prop where
  low : Below w.heap.size w W
  one : W.heap[w.heap.size]? = some (.cells C 59 (0, 0))
  two : W.heap[w.heap.size + 1]? = some (.cells D 59 (0, 0))
  own : W.heap[b]? = some (.cells E 109 (0, 0))
  oth : W.heap[b + 1]? = some (.cells O 109 (0, 0))
  room : b + 1 < W.heap.size
  old : w.heap.size + 1 < b
theorem FtI.mk1 {w W w1 : World} {C D : Array Value} (h : Below w.heap.size w W) (hb : Below W.heap.size W w1) (g1 : W.heap[w.heap.size]? = some (.cells C 59 (0, 0))) (g2 : W.heap[w.heap.size + 1]? = some (.cells D 59 (0, 0))) (E O : Array Value) :
    FtI w ((w1.alloc (.cells E 109)).alloc (.cells O 109)) w1.heap.size C D E O := by
  have z2 : w.heap.size + 1 < W.heap.size := by
    rw [Array.getElem?_eq_some_iff] at g2
    exact g2.1
  have z3 := hb.size
  refine ⟨bl_alloc (bl_alloc (bl_then h hb) _) _, ?_, ?_, ?_, ?_, by simp, by omega⟩
  · rw [heap_alloc_old _ _ (by simp; omega), heap_alloc_old _ _ (by omega), hb.block _ (by omega)]; exact g1
  · rw [heap_alloc_old _ _ (by simp; omega), heap_alloc_old _ _ (by omega), hb.block _ z2]; exact g2
  · rw [heap_alloc_old _ _ (by simp)]; exact heap_alloc_new _ _
  · exact heap_at _ _ _ (by simp)
/-- The same behind the second call. -/
structure FtJ (w W : World) (b1 b2 : Nat) (C D O E : Array Value) : Prop where
  low : Below w.heap.size w W
  one : W.heap[w.heap.size]? = some (.cells C 59 (0, 0))
  two : W.heap[w.heap.size + 1]? = some (.cells D 59 (0, 0))
  oth1 : W.heap[b1 + 1]? = some (.cells O 109 (0, 0))
  own2 : W.heap[b2]? = some (.cells E 109 (0, 0))
theorem FtI.mk2 {w W w2 : World} {b : Nat} {C D E O : Array Value} (h : FtI w W b C D E O) (hb : Below W.heap.size W w2) (E2 O2 : Array Value) :
    FtJ w ((w2.alloc (.cells E2 109)).alloc (.cells O2 109)) b w2.heap.size C D O E2 := by
  have z1 := h.room
  have z2 := h.old
  have z3 := hb.size
  have e : ∀ (i : Nat), i < W.heap.size → ((w2.alloc (.cells E2 109)).alloc (.cells O2 109)).heap[i]? = W.heap[i]? := fun i hi => by
    rw [heap_alloc_old _ _ (by simp; omega), heap_alloc_old _ _ (by omega), hb.block _ hi]
  refine ⟨bl_alloc (bl_alloc (bl_then h.low hb) _) _, ?_, ?_, ?_, ?_⟩
  · rw [e _ (by omega)]; exact h.one
  · rw [e _ (by omega)]; exact h.two
  · rw [e _ (by omega)]; exact h.oth
  · rw [heap_alloc_old _ _ (by simp)]; exact heap_alloc_new _ _
/-- What match.Fit computes out of the faces. -/
noncomputable def fitM (p q : Int) (x y : Nt) (zs : List ByteArray) (tol : Int) : Int × Bool :=
  if x.receive || !sameFace (faceE q y zs) (faceO p x zs) || !(faceE q y zs).right then (0, false)
  else if !(faceE q y zs).pay then (0, true)
  else if !nearB x.amount y.amount tol then (0, false) else (x.amount, true)
set_option maxHeartbeats 4000000 in
theorem fit_walk (p q : Int) (x y : Nt) (A : Option Addr) (n c : Nat) (zs : List ByteArray) (tol : Int) (w : World) (hp : I64 p) (hq : I64 q) (hx : x.wf) (hy : y.wf) (ht : I64 tol) (hr : RdT w A n zs) (hsh : Short zs) (hn : n ≤ 140737488351232) (hpw : PowT w) :
    Calls Tryd.prog 30 #[sideV p x, sideV q y, .slice A n c, .int .i64 tol] w fun e w' => e = .returned (.tuple #[.int .i64 (fitM p q x y zs tol).1, .bool (fitM p q x y zs tol).2]) ∧ Below w.heap.size w w' := by
  generalize hF : fitM p q x y zs tol = R
  have HF := Lib.hid hF
  clear hF
  rw [sideV_agg, sideV_agg]
  have hB2 : Below w.heap.size w ((w.alloc (.cells (sideC p x) 59)).alloc (.cells (sideC q y) 59)) := bl_alloc (bl_alloc (bl_refl w) _) _
  have HB2 := Lib.hid hB2
  clear hB2
  have L1 := Lib.hid (load_side p x ((w.alloc (.cells (sideC p x) 59)).alloc (.cells (sideC q y) 59)) w.heap.size _ (heap_alloc2_old w _ _))
  have G1 := Lib.hid (heap_alloc2_old w (.cells (sideC p x) 59) (.cells (sideC q y) 59))
  have G2 := Lib.hid (heap_alloc2_new w (.cells (sideC p x) 59) (.cells (sideC q y) 59))
  have FO1 := Lib.hid (faceOf_agg p x A n c zs HB2.out hp hx hr hsh hn hpw)
  have FO2 := Lib.hid (fun W hB => faceOf_agg (W := W) q y A n c zs hB hq hy hr hsh hn hpw)
  have SX1 := Lib.hid (store_face_under (faceE p x zs))
  have SX2 := Lib.hid (store_face_new (faceO p x zs))
  have SY1 := Lib.hid (store_face_under (faceE q y zs))
  have SY2 := Lib.hid (store_face_new (faceO q y zs))
  have LS2 := Lib.hid (load_side q y)
  have LF := Lib.hid load_face
  have hne := Lib.hid (face_neq _ _ (faceE_wf q y zs hy hsh) (faceO_wf p x zs hx hsh))
  have k0 := Lib.hid (show (sideC p x)[4]? = some (.bool x.receive) ∧ (sideC p x)[24]? = some (.int .i64 x.amount) ∧ (sideC q y)[24]? = some (.int .i64 y.amount) from ⟨rfl, rfl, rfl⟩)
  generalize sideC p x = CX at *
  generalize sideC q y = CY at *
  go_enter Tryd.func30, Tryd.ntmps30
  go_upto_region 1 with fail
  go_upto_region 2 with (first | (refine wpList_load_known rfl 59 _ rfl _ _ rfl L1.out ?_) | (go_at_call 58; (with_reducible refine FO1.out.mono ?_); rintro e w1 ⟨rfl, hb1⟩; have HB1 := Lib.hid hb1; clear hb1 L1) | (refine wpList_store_plain rfl rfl 109 (.tmp 10) (.tmp 18) rfl ⟨w1.heap.size, 0, none⟩ (.agg (faceC (faceE p x zs))) (by simp [go_sem, Act.eval]) (by simp [go_sem, Act.eval]) (SX1.out w1 _ rfl _ rfl _ _) ?_) | (refine wpList_store_plain rfl rfl 109 (.tmp 11) (.tmp 19) rfl ⟨w1.heap.size + 1, 0, none⟩ (.agg (faceC (faceO p x zs))) (by simp [go_sem, Act.eval]) (by simp [go_sem, Act.eval]) (SX2.out (w1.alloc _) _ (by simp) _ rfl _) ?_))
  clear FO1 SX1 SX2
  have I1 := Lib.hid (FtI.mk1 HB2.out HB1.out G1.out G2.out (faceC (faceE p x zs)) (faceC (faceO p x zs)))
  have hb1 : w.heap.size + 1 < w1.heap.size := by have := HB1.out.size; simp at this; omega
  generalize (w1.alloc (.cells (faceC (faceE p x zs)) 109)).alloc (.cells (faceC (faceO p x zs)) 109) = W3 at I1 ⊢
  generalize w1.heap.size = b1 at I1 hb1 ⊢
  have L2 := Lib.hid (LS2.out W3 (w.heap.size + 1) _ I1.out.two)
  have FO3 := Lib.hid (FO2.out W3 I1.out.low)
  clear FO2 LS2 G1 G2 HB1 HB2
  go_upto_region 3 with (first | (refine wpList_load_known rfl 59 _ rfl _ _ rfl L2.out ?_) | (go_at_call 58; (with_reducible refine FO3.out.mono ?_); rintro e w2 ⟨rfl, hb2⟩; have HB2 := Lib.hid hb2; clear hb2 L2) | (refine wpList_store_plain rfl rfl 109 (.tmp 12) (.tmp 24) rfl ⟨w2.heap.size, 0, none⟩ (.agg (faceC (faceE q y zs))) (by simp [go_sem, Act.eval]) (by simp [go_sem, Act.eval]) (SY1.out w2 _ rfl _ rfl _ _) ?_) | (refine wpList_store_plain rfl rfl 109 (.tmp 13) (.tmp 25) rfl ⟨w2.heap.size + 1, 0, none⟩ (.agg (faceC (faceO q y zs))) (by simp [go_sem, Act.eval]) (by simp [go_sem, Act.eval]) (SY2.out (w2.alloc _) _ (by simp) _ rfl _) ?_))
  clear FO3 SY1 SY2
  have I2 := Lib.hid (I1.out.mk2 HB2.out (faceC (faceE q y zs)) (faceC (faceO q y zs)))
  generalize (w2.alloc (.cells (faceC (faceE q y zs)) 109)).alloc (.cells (faceC (faceO q y zs)) 109) = W5 at I2 ⊢
  generalize w2.heap.size = b2 at I2 ⊢
  clear HB2 I1
  have LA := Lib.hid (LF.out (faceE q y zs) W5 b2 _ I2.out.own2)
  have LB := Lib.hid (LF.out (faceO p x zs) W5 (b1 + 1) _ I2.out.oth1)
  have r4 : W5.cell? ⟨w.heap.size, 4, none⟩ = some (.bool x.receive) := by rw [cell_of_row _ _ _ _ _ _ I2.out.one]; exact k0.out.1
  have m1 : W5.cell? ⟨w.heap.size, 24, none⟩ = some (.int .i64 x.amount) := by rw [cell_of_row _ _ _ _ _ _ I2.out.one]; exact k0.out.2.1
  have m2 : W5.cell? ⟨w.heap.size + 1, 24, none⟩ = some (.int .i64 y.amount) := by rw [cell_of_row _ _ _ _ _ _ I2.out.two]; exact k0.out.2.2
  have c28 : W5.cell? ⟨b2, 28, none⟩ = some (.bool (faceE q y zs).right) := by rw [cell_of_row _ _ _ _ _ _ I2.out.own2]; rfl
  have c15 : W5.cell? ⟨b2, 15, none⟩ = some (.bool (faceE q y zs).pay) := by rw [cell_of_row _ _ _ _ _ _ I2.out.own2]; rfl
  have HLOW := Lib.hid I2.out.low
  have HF0 := HF.out
  unfold fitM at HF0
  have HN := Lib.hid (fun W => near_any x.amount y.amount tol hx.amount hy.amount ht W)
  clear HF LF k0 I2
  have hne2 := hne.out
  clear hne
  generalize sameFace (faceE q y zs) (faceO p x zs) = sm at hne2 HF0
  generalize (faceE q y zs).right = rt at c28 HF0
  generalize (faceE q y zs).pay = pa at c15 HF0
  generalize x.receive = rv at r4 HF0
  generalize nearB x.amount y.amount tol = nb at HN HF0
  generalize faceC (faceE q y zs) = CE2 at LA hne2 ⊢
  generalize faceC (faceO p x zs) = CO1 at LB hne2 ⊢
  cases rv
  · cases sm
    · have HF := Lib.hid (show ((0, false) : Int × Bool) = R from HF0)
      clear HF0
      go_wp2_with (first | (refine wpList_load_guarded 109 (.tmp 12) rfl _ _ rfl LA.out (by rfl) ?_) | (refine wpList_load_guarded 109 (.tmp 11) rfl _ _ rfl LB.out (by rfl) ?_) | (go_at_call 59; (with_reducible refine (HN.out _).mono ?_); rintro e w3 ⟨rfl, rfl⟩))
      go_ret2
      exact ⟨by rw [← HF.out]; rfl, HLOW.out⟩
    · cases rt
      · have HF := Lib.hid (show ((0, false) : Int × Bool) = R from HF0)
        clear HF0
        go_wp2_with (first | (refine wpList_load_guarded 109 (.tmp 12) rfl _ _ rfl LA.out (by rfl) ?_) | (refine wpList_load_guarded 109 (.tmp 11) rfl _ _ rfl LB.out (by rfl) ?_) | (go_at_call 59; (with_reducible refine (HN.out _).mono ?_); rintro e w3 ⟨rfl, rfl⟩))
        go_ret2
        exact ⟨by rw [← HF.out]; rfl, HLOW.out⟩
      · cases pa
        · have HF := Lib.hid (show ((0, true) : Int × Bool) = R from HF0)
          clear HF0
          go_wp2_with (first | (refine wpList_load_guarded 109 (.tmp 12) rfl _ _ rfl LA.out (by rfl) ?_) | (refine wpList_load_guarded 109 (.tmp 11) rfl _ _ rfl LB.out (by rfl) ?_) | (go_at_call 59; (with_reducible refine (HN.out _).mono ?_); rintro e w3 ⟨rfl, rfl⟩))
          go_ret2
          exact ⟨by rw [← HF.out]; rfl, HLOW.out⟩
        · cases nb
          · have HF := Lib.hid (show ((0, false) : Int × Bool) = R from HF0)
            clear HF0
            go_wp2_with (first | (refine wpList_load_guarded 109 (.tmp 12) rfl _ _ rfl LA.out (by rfl) ?_) | (refine wpList_load_guarded 109 (.tmp 11) rfl _ _ rfl LB.out (by rfl) ?_) | (go_at_call 59; (with_reducible refine (HN.out _).mono ?_); rintro e w3 ⟨rfl, rfl⟩))
            go_ret2
            exact ⟨by rw [← HF.out]; rfl, HLOW.out⟩
          · have HF := Lib.hid (show ((x.amount, true) : Int × Bool) = R from HF0)
            clear HF0
            go_wp2_with (first | (refine wpList_load_guarded 109 (.tmp 12) rfl _ _ rfl LA.out (by rfl) ?_) | (refine wpList_load_guarded 109 (.tmp 11) rfl _ _ rfl LB.out (by rfl) ?_) | (go_at_call 59; (with_reducible refine (HN.out _).mono ?_); rintro e w3 ⟨rfl, rfl⟩))
            go_ret2
            exact ⟨by rw [← HF.out]; rfl, HLOW.out⟩
  · have HF := Lib.hid (show ((0, false) : Int × Bool) = R from HF0)
    clear HF0
    go_wp2_with (first | (refine wpList_load_guarded 109 (.tmp 12) rfl _ _ rfl LA.out (by rfl) ?_) | (refine wpList_load_guarded 109 (.tmp 11) rfl _ _ rfl LB.out (by rfl) ?_) | (go_at_call 59; (with_reducible refine (HN.out _).mono ?_); rintro e w3 ⟨rfl, rfl⟩))
    go_ret2
    exact ⟨by rw [← HF.out]; rfl, HLOW.out⟩
end Go.Proofs.YtccnfklemalmeaaDoor
