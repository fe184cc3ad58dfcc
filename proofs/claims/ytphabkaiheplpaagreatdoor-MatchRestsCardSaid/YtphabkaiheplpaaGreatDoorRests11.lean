/- Joined texts of this proof: Face, MFit, MFitLaw. -/
import Derived.Laws.Rows
import Derived.Deep.DeepCutAuto
import Derived.RegionTactic
import Derived.StillTailTactics
import Derived.BigRegion
import Derived.Test.YtphabkaiheplpaaGreatDoorRests9
/- match.faceOf by contract. -/
set_option linter.unusedVariables false
set_option linter.unusedSimpArgs false
set_option maxRecDepth 100000
namespace Go.Proofs.YtphabkaiheplpaaGreatDoor
open Go.RowKit Go.Shelf

/-- A face as a structure, and its 29 cells. -/
structure Fc where
  trade : Int
  settle : Int
  code : Nat → Int
  qty : Int
  pay : Bool
  cur : ByteArray
  from_ : ByteArray
  to_ : ByteArray
  s : Nat → ByteArray
  b : Nat → ByteArray
  rcv : Bool
  right : Bool
def faceC (f : Fc) : Array Value := #[.int .i64 f.trade, .int .i64 f.settle,
  .int .u8 (f.code 0), .int .u8 (f.code 1), .int .u8 (f.code 2), .int .u8 (f.code 3), .int .u8 (f.code 4), .int .u8 (f.code 5), .int .u8 (f.code 6), .int .u8 (f.code 7), .int .u8 (f.code 8), .int .u8 (f.code 9), .int .u8 (f.code 10), .int .u8 (f.code 11),
  .int .i64 f.qty, .bool f.pay, .string f.cur, .string f.from_, .string f.to_, .string (f.s 0), .string (f.s 1), .string (f.s 2), .string (f.s 3), .string (f.b 0), .string (f.b 1), .string (f.b 2), .string (f.b 3), .bool f.rcv, .bool f.right]
def none4 : Nat → ByteArray := fun _ => ⟨#[]⟩
def face0 : Fc := ⟨0, 0, fun _ => 0, 0, false, ⟨#[]⟩, ⟨#[]⟩, ⟨#[]⟩, none4, none4, false, false⟩
/-- The blocks of a call of faceOf: the side, its face, the other's, the notice. -/
structure FaI (w W : World) (n : Nat) (S N F G : Array Value) : Prop where
  low : Below n w W
  size : n + 3 < W.heap.size
  side : W.heap[n]? = some (.cells S 28 (0, 0))
  own : W.heap[n + 1]? = some (.cells F 68 (0, 0))
  oth : W.heap[n + 2]? = some (.cells G 68 (0, 0))
  not : W.heap[n + 3]? = some (.cells N 26 (0, 0))
theorem FaI.sideCell {w W : World} {n : Nat} {S N F G : Array Value} (h : FaI w W n S N F G) {k : Nat} {v : Value} (hk : S[k]? = some v) : W.cell? ⟨n, k, none⟩ = some v := by rw [cell_of_row W n k S _ _ h.side]; exact hk
theorem FaI.noteCell {w W : World} {n : Nat} {S N F G : Array Value} (h : FaI w W n S N F G) {k : Nat} {v : Value} (hk : N[k]? = some v) : W.cell? ⟨n + 3, k, none⟩ = some v := by rw [cell_of_row W _ k N _ _ h.not]; exact hk
theorem FaI.ownCell {w W : World} {n : Nat} {S N F G : Array Value} (h : FaI w W n S N F G) {k : Nat} {v : Value} (hk : F[k]? = some v) : W.cell? ⟨n + 1, k, none⟩ = some v := by rw [cell_of_row W _ k _ _ _ h.own]; exact hk
theorem FaI.othCell {w W : World} {n : Nat} {S N F G : Array Value} (h : FaI w W n S N F G) {k : Nat} {v : Value} (hk : G[k]? = some v) : W.cell? ⟨n + 2, k, none⟩ = some v := by rw [cell_of_row W _ k _ _ _ h.oth]; exact hk
theorem FaI.ownFree {w W : World} {n : Nat} {S N F G : Array Value} (h : FaI w W n S N F G) (k : Nat) : W.frozen? ⟨n + 1, k, none⟩ = false := row_free h.own k
theorem FaI.othFree {w W : World} {n : Nat} {S N F G : Array Value} (h : FaI w W n S N F G) (k : Nat) : W.frozen? ⟨n + 2, k, none⟩ = false := row_free h.oth k
theorem FaI.grow {w W W1 : World} {n : Nat} {S N F G : Array Value} (h : FaI w W n S N F G) (hb : Below W.heap.size W W1) : FaI w W1 n S N F G := by
  have hs := h.size
  have e : ∀ i, i ≤ n + 3 → W1.heap[i]? = W.heap[i]? := fun i hi => hb.block i (by omega)
  exact ⟨h.low.trans ⟨hb.os, hb.tape, hb.output, hb.size, fun i hi => hb.block i (by omega)⟩, Nat.lt_of_lt_of_le hs hb.size, by rw [e _ (by omega)]; exact h.side, by rw [e _ (by omega)]; exact h.own, by rw [e _ (by omega)]; exact h.oth, by rw [e _ (by omega)]; exact h.not⟩
theorem FaI.setOwn {w W : World} {n : Nat} {S N F G : Array Value} (h : FaI w W n S N F G) (k : Nat) (v : Value) : FaI w (W.setCell ⟨n + 1, k, none⟩ v) n S N (F.setIfInBounds k v) G := by
  have hs := h.size
  have e : ∀ i, i ≠ n + 1 → (W.setCell ⟨n + 1, k, none⟩ v).heap[i]? = W.heap[i]? := fun i hi => Below.heap_setCell _ _ _ _ hi
  exact ⟨h.low.setCell (by simp) v, by simpa [World.setCell] using hs, by rw [e _ (by omega)]; exact h.side, heap_setCell_same W (n + 1) k _ _ v h.own, by rw [e _ (by omega)]; exact h.oth, by rw [e _ (by omega)]; exact h.not⟩
theorem FaI.setOth {w W : World} {n : Nat} {S N F G : Array Value} (h : FaI w W n S N F G) (k : Nat) (v : Value) : FaI w (W.setCell ⟨n + 2, k, none⟩ v) n S N F (G.setIfInBounds k v) := by
  have hs := h.size
  have e : ∀ i, i ≠ n + 2 → (W.setCell ⟨n + 2, k, none⟩ v).heap[i]? = W.heap[i]? := fun i hi => Below.heap_setCell _ _ _ _ hi
  exact ⟨h.low.setCell (by simp) v, by simpa [World.setCell] using hs, by rw [e _ (by omega)]; exact h.side, by rw [e _ (by omega)]; exact h.own, heap_setCell_same W (n + 2) k _ _ v h.oth, by rw [e _ (by omega)]; exact h.not⟩
theorem FaI.drew {w W : World} {n : Nat} {S N F G : Array Value} (h : FaI w W n S N F G) : FaI w W.drew n S N F G := ⟨bl_drew h.low, h.size, h.side, h.own, h.oth, h.not⟩
theorem FaI.set9 {w W : World} {n : Nat} {S N F G : Array Value} (h : FaI w W n S N F G) (a b c d e f g i j : Value) :
    FaI w (((((((((W.setCell ⟨n + 1, 19, none⟩ a).setCell ⟨n + 1, 20, none⟩ b).setCell ⟨n + 1, 21, none⟩ c).setCell ⟨n + 1, 22, none⟩ d).setCell ⟨n + 1, 23, none⟩ e).setCell ⟨n + 1, 24, none⟩ f).setCell ⟨n + 1, 25, none⟩ g).setCell ⟨n + 1, 26, none⟩ i).setCell ⟨n + 1, 28, none⟩ j).drew n S N
      (((((((((F.setIfInBounds 19 a).setIfInBounds 20 b).setIfInBounds 21 c).setIfInBounds 22 d).setIfInBounds 23 e).setIfInBounds 24 f).setIfInBounds 25 g).setIfInBounds 26 i).setIfInBounds 28 j) G :=
  (((((((((h.setOwn 19 a).setOwn 20 b).setOwn 21 c).setOwn 22 d).setOwn 23 e).setOwn 24 f).setOwn 25 g).setOwn 26 i).setOwn 28 j).drew
theorem FaI.set10 {w W : World} {n : Nat} {S N F G : Array Value} (h : FaI w W n S N F G) (y z a b c d e f g i : Value) :
    FaI w ((((((((((W.setCell ⟨n + 1, 17, none⟩ y).setCell ⟨n + 1, 18, none⟩ z).setCell ⟨n + 1, 19, none⟩ a).setCell ⟨n + 1, 20, none⟩ b).setCell ⟨n + 1, 21, none⟩ c).setCell ⟨n + 1, 22, none⟩ d).setCell ⟨n + 1, 23, none⟩ e).setCell ⟨n + 1, 24, none⟩ f).setCell ⟨n + 1, 25, none⟩ g).setCell ⟨n + 1, 26, none⟩ i) n S N
      ((((((((((F.setIfInBounds 17 y).setIfInBounds 18 z).setIfInBounds 19 a).setIfInBounds 20 b).setIfInBounds 21 c).setIfInBounds 22 d).setIfInBounds 23 e).setIfInBounds 24 f).setIfInBounds 25 g).setIfInBounds 26 i) G :=
  (((((((((h.setOwn 17 y).setOwn 18 z).setOwn 19 a).setOwn 20 b).setOwn 21 c).setOwn 22 d).setOwn 23 e).setOwn 24 f).setOwn 25 g).setOwn 26 i
theorem heap_setRow_same (W : World) (b : Nat) (c vs : Array Value) (t : TypeId) (h : W.heap[b]? = some (.cells c t (0, 0))) : (W.setRow b vs).heap[b]? = some (.cells vs t (0, 0)) := by
  unfold World.setRow
  simp only [Array.getElem?_modify, if_true, h, Option.map_some]
theorem heap_setRow_ne (W : World) (b i : Nat) (vs : Array Value) (h : i ≠ b) : (W.setRow b vs).heap[i]? = W.heap[i]? := by
  unfold World.setRow
  simp only [Array.getElem?_modify]
  rw [if_neg (Ne.symm h)]
theorem size_setRow (W : World) (b : Nat) (vs : Array Value) : (W.setRow b vs).heap.size = W.heap.size := by
  unfold World.setRow
  simp
theorem FaI.rowOwn {w W : World} {n : Nat} {S N F G : Array Value} (vs : Array Value) (h : FaI w W n S N F G) : FaI w (W.setRow (n + 1) vs) n S N vs G := by
  have hs := h.size
  have e : ∀ i, i ≠ n + 1 → (W.setRow (n + 1) vs).heap[i]? = W.heap[i]? := fun i hi => heap_setRow_ne _ _ _ _ hi
  exact ⟨h.low.trans ⟨rfl, rfl, rfl, by rw [size_setRow]; exact Nat.le_refl _, fun i hi => e i (by omega)⟩, by rw [size_setRow]; exact hs, by rw [e _ (by omega)]; exact h.side, heap_setRow_same _ _ _ _ _ h.own, by rw [e _ (by omega)]; exact h.oth, by rw [e _ (by omega)]; exact h.not⟩
theorem FaI.rowOth {w W : World} {n : Nat} {S N F G : Array Value} (vs : Array Value) (h : FaI w W n S N F G) : FaI w (W.setRow (n + 2) vs) n S N F vs := by
  have hs := h.size
  have e : ∀ i, i ≠ n + 2 → (W.setRow (n + 2) vs).heap[i]? = W.heap[i]? := fun i hi => heap_setRow_ne _ _ _ _ hi
  exact ⟨h.low.trans ⟨rfl, rfl, rfl, by rw [size_setRow]; exact Nat.le_refl _, fun i hi => e i (by omega)⟩, by rw [size_setRow]; exact hs, by rw [e _ (by omega)]; exact h.side, by rw [e _ (by omega)]; exact h.own, heap_setRow_same _ _ _ _ _ h.oth, by rw [e _ (by omega)]; exact h.not⟩
theorem face_size : (Tryz.prog.info? 68).map (·.size) = some 29 := by kernel_rfl
theorem face_desc : (match Tryz.prog.underlying 68 with | some (.struct _) => true | _ => false) = true := by kernel_rfl
theorem faceC_one (f : Fc) : (faceC f).all (·.oneCell') = true := by simp [faceC, Value.oneCell']
theorem load_face (f : Fc) (W : World) (g : Nat) (T : TypeId) (hg : W.heap[g]? = some (.cells (faceC f) T (0, 0))) : (loadVar 68 ⟨g, 0, none⟩).run Tryz.prog W = .ok (.agg (faceC f)) W := by
  have hd := face_desc
  cases hu : Tryz.prog.underlying 68 with
  | none => rw [hu] at hd; cases hd
  | some d =>
    rw [hu] at hd
    refine loadVar_part Tryz.prog W g 0 _ (faceC f).toList d hu (by cases d <;> simp_all) face_size fun j v hv => ?_
    rw [cell_of_row W g (0 + j) _ T _ hg, Nat.zero_add, ← Array.getElem?_toList]
    exact hv
theorem store_face (f f1 : Fc) (W : World) (g : Nat) (T : TypeId) (hg : W.heap[g]? = some (.cells (faceC f) T (0, 0))) : (storeVar 68 ⟨g, 0, none⟩ (.agg (faceC f1))).run Tryz.prog W = .ok () (W.setRow g (faceC f1)) :=
  run_storeVar_row W g T _ (faceC f) (faceC f1) hg face_size rfl (faceC_one f1)
theorem wpList_build_known {P : Program} {ops : Array Oper} {rest : List Oper} {o : Oper} {a : Act} {w : World} {Q : Exit → Act → World → Prop} (hgd : o.guard = none) (t : TypeId) (ps : Array (Nat × Operand)) (ho : o.op = .build t ps)
    (vs : Array (Nat × Value)) (v : Value) (hl : (Instr.build t vs).run P w = .ok v w) (hv : (ps.toList.map fun p => (p.1, a.eval p.2)) = vs.toList) (h : wpList P ops Q rest (a.put o.dst v) w) : wpList P ops Q (o :: rest) a w :=
  wpList_plain hgd fun _ hK => by
    have hv' : ps.map (fun (i, x) => (i, a.eval x)) = vs := by
      apply Array.toList_inj.1
      rw [Array.toList_map]
      exact hv
    unfold Oper.wp execOp
    simp only [ho, hv', Sem.run_bind, Sem.run_pure, Result.andThen_ok, hl]
    exact hK _ _ h
theorem build_face (x : Nt) (W : World) : (Instr.build 68 #[(0, .int .i64 x.trade), (1, .int .i64 x.settle), (2, .agg (codeV x.code)), (3, .int .i64 x.qty), (4, .bool x.pay), (6, .string x.account), (7, .string x.other), (10, .bool x.receive)]).run Tryz.prog W
    = .ok (.agg (faceC ⟨x.trade, x.settle, x.code, x.qty, x.pay, ⟨#[]⟩, x.account, x.other, none4, none4, x.receive, false⟩)) W :=
  run_build W _ _ _ (by kernel_rfl)
/-- The face that faceOf answers, and the other's. -/
def okP (p : Int) (x : Nt) (zs : List ByteArray) : Bool := !x.cancel && (decide (0 ≤ p) && decide (p < zs.length))
def faceA (x : Nt) : Fc := ⟨x.trade, x.settle, x.code, x.qty, x.pay, ⟨#[]⟩, x.account, x.other, none4, none4, x.receive, false⟩
def faceB (x : Nt) : Fc := { faceA x with cur := if x.pay then x.currency else ⟨#[]⟩ }
def faceD (p : Int) (x : Nt) (zs : List ByteArray) : Fc := if okP p x zs then { faceB x with s := bicP (zs.getD p.toNat ⟨#[]⟩), b := bicP x.agent, right := bicOK (zs.getD p.toNat ⟨#[]⟩) && bicOK x.agent } else faceB x
def faceE (p : Int) (x : Nt) (zs : List ByteArray) : Fc := if x.receive then { faceD p x zs with from_ := (faceD p x zs).to_, to_ := (faceD p x zs).from_, s := (faceD p x zs).b, b := (faceD p x zs).s } else faceD p x zs
def faceO (p : Int) (x : Nt) (zs : List ByteArray) : Fc := { faceE p x zs with rcv := !(faceE p x zs).rcv }
theorem bic_four (s : ByteArray) (hs : s.size ≤ 140737488351232) (w : World) (hp : PowT w) : Calls Tryz.prog 60 #[.string s] w fun e w' => ∃ E : GErr, e = .returned (.tuple #[.agg #[.string (bicP s 0), .string (bicP s 1), .string (bicP s 2), .string (bicP s 3)], E.val]) ∧ E.isNil = bicOK s ∧ E.ok ∧ Below w.heap.size w w' := bic_any s hs w hp
theorem face_set9 (f : Fc) (s b : Nat → ByteArray) (r : Bool) : (((((((((faceC f).setIfInBounds 19 (.string (s 0))).setIfInBounds 20 (.string (s 1))).setIfInBounds 21 (.string (s 2))).setIfInBounds 22 (.string (s 3))).setIfInBounds 23 (.string (b 0))).setIfInBounds 24 (.string (b 1))).setIfInBounds 25 (.string (b 2))).setIfInBounds 26 (.string (b 3))).setIfInBounds 28 (.bool r) = faceC { f with s := s, b := b, right := r } := by kernel_rfl
theorem face_set8 (f : Fc) (s b : Nat → ByteArray) : ((((((((faceC f).setIfInBounds 19 (.string (s 0))).setIfInBounds 20 (.string (s 1))).setIfInBounds 21 (.string (s 2))).setIfInBounds 22 (.string (s 3))).setIfInBounds 23 (.string (b 0))).setIfInBounds 24 (.string (b 1))).setIfInBounds 25 (.string (b 2))).setIfInBounds 26 (.string (b 3)) = faceC { f with s := s, b := b } := by kernel_rfl
theorem face_set2 (f : Fc) (s b : ByteArray) : ((faceC f).setIfInBounds 17 (.string s)).setIfInBounds 18 (.string b) = faceC { f with from_ := s, to_ := b } := by kernel_rfl
theorem face_set1 (f : Fc) (r : Bool) : (faceC f).setIfInBounds 27 (.bool r) = faceC { f with rcv := r } := by kernel_rfl
theorem results_cells2 {fn : Func} {P : Program} {i j : Tmp} {t u : TypeId} (h : fn.results = #[.cell i t, .cell j u]) (tmps : Array Value) {a b : Addr} {w : World} {v1 v2 : Value} (ha : tmps.getD i undef = .pointer (some a)) (hb : tmps.getD j undef = .pointer (some b))
    (l1 : (loadVar t a).run P w = .ok v1 w) (l2 : (loadVar u b).run P w = .ok v2 w) : (results fn tmps).run P w = .ok (.tuple #[v1, v2]) w := by
  unfold results
  rw [h]
  simp only [Array.mapM_eq_mapM_toList, List.mapM_cons, List.mapM_nil, ha, hb, asAddr, Sem.run_bind, Sem.run_pure, Sem.run_map, Result.andThen_ok, l1, l2, pure_bind, bind_pure_comp]
  rfl
theorem step_load_known {P : Program} {ops : Array Oper} {o : Oper} {a : Act} {w : World} {K : Act → World → Prop} {Q : Exit → Act → World → Prop} {F : Prop} (hgd : o.guard = none) (ty : TypeId) (x : Operand) (ho : o.op = .load ty x)
    (ad : Addr) (v : Value) (hx : a.eval x = .pointer (some ad)) (hl : (loadVar ty ad).run P w = .ok v w) (hK : K (a.put o.dst v) w) : if Region.wanted o (yielded ops a.tmps) = true then Oper.wp P o a w K Q else F := by
  have hw : Region.wanted o (yielded ops a.tmps) = true := by simp [Region.wanted, hgd]
  rw [if_pos hw]
  unfold Oper.wp execOp
  simp only [ho, hx, Instr.loadAt, Instr.sureAddr, Sem.run_bind, Sem.run_pure, Result.andThen_ok, hl]
  exact hK
theorem step_store_known {P : Program} {ops : Array Oper} {o : Oper} {a : Act} {w w2 : World} {K : Act → World → Prop} {Q : Exit → Act → World → Prop} {F : Prop} (hgd : o.guard = none) (hd : o.dst = none) (ty : TypeId) (x y : Operand) (ho : o.op = .store ty x y)
    (ad : Addr) (v : Value) (hx : a.eval x = .pointer (some ad)) (hy : a.eval y = v) (hl : (storeVar ty ad v).run P w = .ok () w2) (hK : K a w2) : if Region.wanted o (yielded ops a.tmps) = true then Oper.wp P o a w K Q else F := by
  have hw : Region.wanted o (yielded ops a.tmps) = true := by simp [Region.wanted, hgd]
  rw [if_pos hw]
  unfold Oper.wp execOp
  simp only [ho, hx, hy, Instr.storeAt, Instr.sureAddr, Sem.run_bind, Sem.run_pure, Result.andThen_ok, hl]
  have e : a.put o.dst undef = a := by rw [hd]; rfl
  rw [← e] at hK
  exact hK
theorem wpStill_load {P : Program} {ops : Array Oper} {rest : List Oper} {o : Oper} {a : Act} {w : World} {Q : Act → Prop} (hgd : o.guard = none) (ty : TypeId) (x : Operand) (ho : o.op = .load ty x)
    (ad : Addr) (v : Value) (hx : a.eval x = .pointer (some ad)) (hl : (loadVar ty ad).run P w = .ok v w) (h : wpStill P ops w Q rest (a.put o.dst v)) : wpStill P ops w Q (o :: rest) a := by
  refine wpStill_step fun K hK => ?_
  have hw : Region.wanted o (yielded ops a.tmps) = true := by simp [Region.wanted, hgd]
  rw [if_pos hw]
  unfold Oper.still execOp
  simp only [ho, hx, Instr.loadAt, Instr.sureAddr, Sem.run_bind, Sem.run_pure, Result.andThen_ok, hl, Oper.stillUpon_value]
  exact hK _ h
/-- The four cells of a block. -/
def Cells4 (W : World) (g : Nat) (a b c d : Value) : Prop := W.cell? ⟨g, 0, none⟩ = some a ∧ W.cell? ⟨g, 1, none⟩ = some b ∧ W.cell? ⟨g, 2, none⟩ = some c ∧ W.cell? ⟨g, 3, none⟩ = some d
theorem Cells4.below {W W1 : World} {g : Nat} {a b c d : Value} (h : Cells4 W g a b c d) (hb : Below W.heap.size W W1) : Cells4 W1 g a b c d := ⟨bl_cell hb h.1, bl_cell hb h.2.1, bl_cell hb h.2.2.1, bl_cell hb h.2.2.2⟩
theorem cell4 (W : World) (a b c d : Value) (t : TypeId) : Cells4 (W.alloc (.cells #[a, b, c, d] t)) W.heap.size a b c d := ⟨by simp, by simp, by simp, by simp⟩
set_option maxHeartbeats 4000000 in
theorem faceOf_any (p : Int) (x : Nt) (A : Option Addr) (n c : Nat) (zs : List ByteArray) (w : World) (hp : I64 p) (hx : x.wf) (hr : RdT w A n zs) (hsh : Short zs) (hn : n ≤ 140737488351232) (hpw : PowT w) :
    Calls Tryz.prog 23 #[sideV p x, .slice A n c] w fun e w' => e = .returned (.tuple #[.agg (faceC (faceE p x zs)), .agg (faceC (faceO p x zs))]) ∧ Below w.heap.size w w' := by
  rw [sideV_agg]
  have L1 := Lib.hid (load_note p x (((w.alloc (.cells (sideC p x) 28)).alloc (.cells (faceC face0) 68)).alloc (.cells (faceC face0) 68)) w.heap.size _ (by rw [heap_alloc_old _ _ (by simp; omega), heap_alloc_old _ _ (by simp)]; exact heap_alloc_new w _))
  have S1 := Lib.hid (store_note x)
  have c0 : (sideC p x)[0]? = some (.int .i64 p) := rfl
  generalize sideC p x = C at L1 c0 ⊢
  obtain ⟨a2, a3, a4, a5, a6, a19, a20, a21, a22, a23, a24⟩ := note_cells x
  have K1 := Lib.hid (load_code x)
  generalize noteC x = NX at L1 S1 K1 a2 a3 a4 a5 a6 a19 a20 a21 a22 a23 a24
  go_enter Tryz.func23, Tryz.ntmps23
  go_upto_region 1 with fail
  change Code.wp _ _ _ _ (((w.alloc (.cells C 28)).alloc (.cells (faceC face0) 68)).alloc (.cells (faceC face0) 68))
  have I0 : FaI w ((((w.alloc (.cells C 28)).alloc (.cells (faceC face0) 68)).alloc (.cells (faceC face0) 68)).alloc (.cells NX 26)) w.heap.size C NX (faceC face0) (faceC face0) := by
    refine ⟨bl_alloc (bl_alloc (bl_alloc (bl_alloc (bl_refl w) _) _) _) _, by simp, ?_, ?_, ?_, ?_⟩
    · rw [heap_alloc_old _ _ (by simp; omega), heap_alloc_old _ _ (by simp; omega), heap_alloc_old _ _ (by simp)]; exact heap_alloc_new w _
    · rw [heap_alloc_old _ _ (by simp), heap_alloc_old _ _ (by simp)]; exact heap_at _ _ _ (by simp)
    · rw [heap_alloc_old _ _ (by simp)]; exact heap_at _ _ _ (by simp)
    · exact heap_at _ _ _ (by simp)
  have I := Lib.hid I0
  clear I0
  have hZs : (faceC face0).size = (faceC (faceA x)).size := rfl
  generalize hz : faceC face0 = Z0 at L1 hZs ⊢
  rw [hz] at I
  go_upto_region 2 with (first | (refine wpList_load_known rfl 26 _ rfl _ _ rfl L1.out ?_) | (refine wpList_store_plain rfl rfl 26 _ _ rfl _ _ rfl rfl (S1.out _ _ (by simp) _ rfl _) ?_))
  clear L1 S1
  generalize ((((w.alloc (.cells C 28)).alloc (.cells Z0 68)).alloc (.cells Z0 68)).alloc (.cells NX 26)) = W at I ⊢
  have r3 : W.cell? ⟨w.heap.size + 1 + 1 + 1, 3, none⟩ = _ := I.out.noteCell a3
  have r4 : W.cell? ⟨w.heap.size + 1 + 1 + 1, 4, none⟩ = _ := I.out.noteCell a4
  have r5 : W.cell? ⟨w.heap.size + 1 + 1 + 1, 5, none⟩ = _ := I.out.noteCell a5
  have r6 : W.cell? ⟨w.heap.size + 1 + 1 + 1, 6, none⟩ = _ := I.out.noteCell a6
  have r19 : W.cell? ⟨w.heap.size + 1 + 1 + 1, 19, none⟩ = _ := I.out.noteCell a19
  have r20 : W.cell? ⟨w.heap.size + 1 + 1 + 1, 20, none⟩ = _ := I.out.noteCell a20
  have r22 : W.cell? ⟨w.heap.size + 1 + 1 + 1, 22, none⟩ = _ := I.out.noteCell a22
  have HB := Lib.hid (build_face x W)
  have HK := Lib.hid (K1.out W (w.heap.size + 1 + 1 + 1) _ I.out.not)
  obtain ⟨W2, HS, I2⟩ : ∃ W2, Hid ((storeVar 68 ⟨w.heap.size + 1, 0, none⟩ (.agg (faceC (faceA x)))).run Tryz.prog W = .ok () W2) ∧ Hid (FaI w W2 w.heap.size C NX (faceC (faceA x)) (faceC face0)) := ⟨_, Lib.hid (by have := I.out.own; exact run_storeVar_row W _ _ _ Z0 (faceC (faceA x)) this face_size hZs (faceC_one _)), Lib.hid (by have := I.out.rowOwn (faceC (faceA x)); first | exact this | (rw [← hz]; exact this) | (rw [hz]; exact this) | (rw [hz] at this; exact this))⟩
  clear K1 hz hZs
  generalize codeV x.code = CV at HK HB
  have HB := HB.out
  unfold faceA at HS I2
  obtain ⟨CF1, hCF⟩ : ∃ C : Array Value, C = faceC ⟨x.trade, x.settle, x.code, x.qty, x.pay, ⟨#[]⟩, x.account, x.other, none4, none4, x.receive, false⟩ := ⟨_, rfl⟩
  rw [← hCF] at HB HS
  have HB := Lib.hid HB
  have HC := Lib.hid hCF
  clear hCF
  go_upto_region 3 with (first | (refine wpList_load_known rfl 23 _ rfl _ _ rfl HK.out ?_) | (refine wpList_build_known rfl 68 _ rfl _ _ HB.out rfl ?_) | (refine wpList_store_plain rfl rfl 68 _ _ rfl ⟨w.heap.size + 1, 0, none⟩ (.agg CF1) (by simp [go_sem, Act.eval]) (by simp [go_sem, Act.eval]) HS.out ?_))
  clear HK HB HS I r3 r4 r5 r6 r19 r20 r22 HC
  have I : Hid (FaI w W2 w.heap.size C NX (faceC (faceA x)) (faceC face0)) := I2
  clear I2
  have r4 : W2.cell? ⟨w.heap.size + 1 + 1 + 1, 4, none⟩ = _ := I.out.noteCell a4
  go_upto_if 31 with fail
  go_cut [] (fun wx => FaI w wx w.heap.size C NX (faceC (faceB x)) (faceC face0))
  case first =>
    cases hp5 : x.pay
    · go_wp2
      go_meet
      have := I.out
      have e : faceA x = faceB x := by unfold faceB; rw [hp5]; rfl
      rw [← e]
      exact this
    · have r24 : W2.cell? ⟨w.heap.size + 1 + 1 + 1, 24, none⟩ = _ := I.out.noteCell a24
      have c16 : W2.cell? ⟨w.heap.size + 1, 16, none⟩ = some (.string ⟨#[]⟩) := I.out.ownCell rfl
      have f16 := I.out.ownFree 16
      go_wp2
      go_meet
      have := I.out.setOwn 16 (.string x.currency)
      have e : (faceC (faceA x)).setIfInBounds 16 (.string x.currency) = faceC (faceB x) := by unfold faceB; rw [hp5]; rfl
      rw [← e]
      exact this
  case rest =>
    have I := Lib.hid hcut
    clear hcut
    have r2 : wc.cell? ⟨w.heap.size + 1 + 1 + 1, 2, none⟩ = _ := I.out.noteCell a2
    have s0 : wc.cell? ⟨w.heap.size, 0, none⟩ = _ := I.out.sideCell c0
    have hl := hr.1
    go_upto_region 5 with fail
    go_cut [49] (fun cc wx => cc = .bool (okP p x zs) ∧ wx = wc)
    case first =>
      have HR := Lib.hid hr
      clear hr
      go_wp2
      all_goals go_meet
      all_goals refine ⟨?_, rfl⟩
      all_goals unfold okP
      all_goals rw [hl]
      all_goals first | (simp [*]; done) | (simp_all; done) | (simp [*]; omega)
    case rest =>
      obtain ⟨rfl, rfl⟩ := hcut
      go_upto_if 49 with fail
      go_cut [] (fun wx => FaI w wx w.heap.size C NX (faceC (faceD p x zs)) (faceC face0))
      case first =>
        cases hok : okP p x zs
        · go_wp2
          go_meet
          have e : faceD p x zs = faceB x := by unfold faceD; rw [hok]; rfl
          rw [e]
          exact I.out
        · have hok2 := hok
          unfold okP at hok2
          simp only [Bool.and_eq_true, decide_eq_true_eq, Bool.not_eq_true'] at hok2
          obtain ⟨hcan, hp0, hp1⟩ := hok2
          obtain ⟨k, rfl⟩ : ∃ k : Nat, p = k := ⟨p.toNat, by omega⟩
          have hk : k < n := by omega
          obtain ⟨ad, rfl, hcell⟩ := (hr.below I.out.low).at_ hk
          have hD : faceD k x zs = { faceB x with s := bicP (zs.getD k ⟨#[]⟩), b := bicP x.agent, right := bicOK (zs.getD k ⟨#[]⟩) && bicOK x.agent } := by unfold faceD; rw [hok]; rfl
          have hz := hsh k
          have HD := Lib.hid hD
          clear hok hD hcan hr hsh hp0 hp1
          generalize zs.getD k ⟨#[]⟩ = z at hcell hz HD
          have HZ := fun W hp => bic_four z hz W hp
          have HPW := Lib.hid (hpw.below I.out.low)
          go_upto_region 7 with (go_at_call 60; (with_reducible refine (HZ _ HPW.out).mono ?_); rintro e w1 ⟨E1, rfl, hE1, hok1, hb1⟩; have I1 := Lib.hid (I.out.grow hb1); have HE1 := Lib.hid hE1; clear hE1 hb1 I)
          have I2 := Lib.hid (I1.out.grow (bl_alloc (bl_refl w1) (.cells #[.string (bicP z 0), .string (bicP z 1), .string (bicP z 2), .string (bicP z 3)] 66)))
          have n0 := cell4 w1 (.string (bicP z 0)) (.string (bicP z 1)) (.string (bicP z 2)) (.string (bicP z 3)) 66
          have hlt : w1.heap.size < (w1.alloc (.cells #[.string (bicP z 0), .string (bicP z 1), .string (bicP z 2), .string (bicP z 3)] 66)).heap.size := by simp
          clear I1 HZ hcell
          generalize w1.alloc (.cells #[.string (bicP z 0), .string (bicP z 1), .string (bicP z 2), .string (bicP z 3)] 66) = W7 at I2 n0 hlt ⊢
          generalize w1.heap.size = b1 at n0 hlt ⊢
          have HA := fun W hp => bic_four x.agent hx.agent W hp
          have HPW7 := Lib.hid (hpw.below I2.out.low)
          have r21 : W7.cell? ⟨w.heap.size + 1 + 1 + 1, 21, none⟩ = _ := I2.out.noteCell a21
          have N0 := Lib.hid n0
          clear n0
          go_upto_region 8 with (go_at_call 60; (with_reducible refine (HA _ HPW7.out).mono ?_); rintro e w2 ⟨E2, rfl, hE2, hok2, hb2⟩; have I3 := Lib.hid (I2.out.grow hb2); have HE2 := Lib.hid hE2; have N1 := Lib.hid (Cells4.below N0.out hb2); have hlt2 := Lib.hid (Nat.lt_of_lt_of_le hlt hb2.size); clear hE2 hb2 I2)
          have I4 := Lib.hid (I3.out.grow (bl_alloc (bl_refl w2) (.cells #[.string (bicP x.agent 0), .string (bicP x.agent 1), .string (bicP x.agent 2), .string (bicP x.agent 3)] 66)))
          have M0 := Lib.hid (cell4 w2 (.string (bicP x.agent 0)) (.string (bicP x.agent 1)) (.string (bicP x.agent 2)) (.string (bicP x.agent 3)) 66)
          have N2 := Lib.hid (Cells4.below N1.out (bl_alloc (bl_refl w2) (.cells #[.string (bicP x.agent 0), .string (bicP x.agent 1), .string (bicP x.agent 2), .string (bicP x.agent 3)] 66)))
          clear HA N0 N1 r21 hlt
          generalize w2.alloc (.cells #[.string (bicP x.agent 0), .string (bicP x.agent 1), .string (bicP x.agent 2), .string (bicP x.agent 3)] 66) = W8 at I4 M0 N2 ⊢
          have hne2 : b1 ≠ w2.heap.size := by have := hlt2.out; omega
          generalize w2.heap.size = b2 at M0 hne2 hlt2 ⊢
          obtain ⟨m0, m1, m2, m3⟩ := M0.out
          obtain ⟨k0, k1, k2, k3⟩ := N2.out
          clear M0 N2 hlt2 hne2
          have f19 := I4.out.ownFree 19
          have c19 : W8.cell? ⟨w.heap.size + 1, 19, none⟩ = _ := I4.out.ownCell (k := 19) rfl
          have f20 := I4.out.ownFree 20
          have c20 : W8.cell? ⟨w.heap.size + 1, 20, none⟩ = _ := I4.out.ownCell (k := 20) rfl
          have f21 := I4.out.ownFree 21
          have c21 : W8.cell? ⟨w.heap.size + 1, 21, none⟩ = _ := I4.out.ownCell (k := 21) rfl
          have f22 := I4.out.ownFree 22
          have c22 : W8.cell? ⟨w.heap.size + 1, 22, none⟩ = _ := I4.out.ownCell (k := 22) rfl
          have f23 := I4.out.ownFree 23
          have c23 : W8.cell? ⟨w.heap.size + 1, 23, none⟩ = _ := I4.out.ownCell (k := 23) rfl
          have f24 := I4.out.ownFree 24
          have c24 : W8.cell? ⟨w.heap.size + 1, 24, none⟩ = _ := I4.out.ownCell (k := 24) rfl
          have f25 := I4.out.ownFree 25
          have c25 : W8.cell? ⟨w.heap.size + 1, 25, none⟩ = _ := I4.out.ownCell (k := 25) rfl
          have f26 := I4.out.ownFree 26
          have c26 : W8.cell? ⟨w.heap.size + 1, 26, none⟩ = _ := I4.out.ownCell (k := 26) rfl
          have f28 := I4.out.ownFree 28
          have c28 : W8.cell? ⟨w.heap.size + 1, 28, none⟩ = _ := I4.out.ownCell (k := 28) rfl
          have g1 := fun x c W => guard_err E1 x c W
          have g2 := fun x c W => guard_err E2 x c W
          have v1 := fun W => eql_nil_err E1 W
          have v2 := fun W => eql_nil_err E2 W
          cases hb1 : bicOK z
          · have e1 : E1.isNil = false := HE1.out.trans hb1
            rw [e1] at v1
            go_region
            go_wp2
            go_meet
            rw [HD.out]
            have i5 := I4.out.set9 (.string (bicP z 0)) (.string (bicP z 1)) (.string (bicP z 2)) (.string (bicP z 3)) (.string (bicP x.agent 0)) (.string (bicP x.agent 1)) (.string (bicP x.agent 2)) (.string (bicP x.agent 3)) (.bool false)
            rw [face_set9] at i5
            have hv : (bicOK z && bicOK x.agent) = false := by rw [hb1]; rfl
            rw [hv]
            exact i5
          · have e1 : E1.isNil = true := HE1.out.trans hb1
            rw [e1] at v1
            cases hb2 : bicOK x.agent
            · have e2 : E2.isNil = false := HE2.out.trans hb2
              rw [e2] at v2
              go_region
              go_wp2
              go_meet
              rw [HD.out]
              have i5 := I4.out.set9 (.string (bicP z 0)) (.string (bicP z 1)) (.string (bicP z 2)) (.string (bicP z 3)) (.string (bicP x.agent 0)) (.string (bicP x.agent 1)) (.string (bicP x.agent 2)) (.string (bicP x.agent 3)) (.bool false)
              rw [face_set9] at i5
              have hv : (bicOK z && bicOK x.agent) = false := by rw [hb1, hb2]; rfl
              rw [hv]
              exact i5
            · have e2 : E2.isNil = true := HE2.out.trans hb2
              rw [e2] at v2
              go_region
              go_wp2
              go_meet
              rw [HD.out]
              have i5 := I4.out.set9 (.string (bicP z 0)) (.string (bicP z 1)) (.string (bicP z 2)) (.string (bicP z 3)) (.string (bicP x.agent 0)) (.string (bicP x.agent 1)) (.string (bicP x.agent 2)) (.string (bicP x.agent 3)) (.bool true)
              rw [face_set9] at i5
              have hv : (bicOK z && bicOK x.agent) = true := by rw [hb1, hb2]; rfl
              rw [hv]
              exact i5
      case rest =>
        have I := Lib.hid hcut
        clear hcut
        obtain ⟨W5, hW5⟩ : ∃ X, X = wc := ⟨_, rfl⟩
        subst hW5
        have r3 : W5.cell? ⟨w.heap.size + 1 + 1 + 1, 3, none⟩ = _ := I.out.noteCell a3
        clear r2 s0
        go_upto_if 77 with fail
        go_cut [] (fun wx => FaI w wx w.heap.size C NX (faceC (faceE p x zs)) (faceC face0))
        case first =>
          have hE := Lib.hid (show faceE p x zs = if x.receive then { faceD p x zs with from_ := (faceD p x zs).to_, to_ := (faceD p x zs).from_, s := (faceD p x zs).b, b := (faceD p x zs).s } else faceD p x zs from rfl)
          generalize faceD p x zs = D at I hE
          cases hrc : x.receive
          · go_wp2
            go_meet
            rw [hE.out, hrc]
            exact I.out
          · have HC := Lib.hid hrc
            clear hrc
            have c17 : W5.cell? ⟨w.heap.size + 1, 17, none⟩ = some (.string D.from_) := I.out.ownCell (k := 17) rfl
            have f17 := I.out.ownFree 17
            have c18 : W5.cell? ⟨w.heap.size + 1, 18, none⟩ = some (.string D.to_) := I.out.ownCell (k := 18) rfl
            have f18 := I.out.ownFree 18
            have c19 : W5.cell? ⟨w.heap.size + 1, 19, none⟩ = some (.string (D.s 0)) := I.out.ownCell (k := 19) rfl
            have f19 := I.out.ownFree 19
            have c20 : W5.cell? ⟨w.heap.size + 1, 20, none⟩ = some (.string (D.s 1)) := I.out.ownCell (k := 20) rfl
            have f20 := I.out.ownFree 20
            have c21 : W5.cell? ⟨w.heap.size + 1, 21, none⟩ = some (.string (D.s 2)) := I.out.ownCell (k := 21) rfl
            have f21 := I.out.ownFree 21
            have c22 : W5.cell? ⟨w.heap.size + 1, 22, none⟩ = some (.string (D.s 3)) := I.out.ownCell (k := 22) rfl
            have f22 := I.out.ownFree 22
            have c23 : W5.cell? ⟨w.heap.size + 1, 23, none⟩ = some (.string (D.b 0)) := I.out.ownCell (k := 23) rfl
            have f23 := I.out.ownFree 23
            have c24 : W5.cell? ⟨w.heap.size + 1, 24, none⟩ = some (.string (D.b 1)) := I.out.ownCell (k := 24) rfl
            have f24 := I.out.ownFree 24
            have c25 : W5.cell? ⟨w.heap.size + 1, 25, none⟩ = some (.string (D.b 2)) := I.out.ownCell (k := 25) rfl
            have f25 := I.out.ownFree 25
            have c26 : W5.cell? ⟨w.heap.size + 1, 26, none⟩ = some (.string (D.b 3)) := I.out.ownCell (k := 26) rfl
            have f26 := I.out.ownFree 26
            go_wp2
            go_meet
            rw [hE.out, HC.out, if_pos rfl]
            have i5 := I.out.set10 (.string D.to_) (.string D.from_) (.string (D.b 0)) (.string (D.b 1)) (.string (D.b 2)) (.string (D.b 3)) (.string (D.s 0)) (.string (D.s 1)) (.string (D.s 2)) (.string (D.s 3))
            rw [face_set2, face_set8] at i5
            exact i5
        case rest =>
          have I := Lib.hid hcut
          clear hcut
          obtain ⟨W6, hW6⟩ : ∃ X, X = wc := ⟨_, rfl⟩
          subst hW6
          have LD := Lib.hid (load_face (faceE p x zs) W6 (w.heap.size + 1) _ I.out.own)
          obtain ⟨W7, HS, I7⟩ : ∃ W7, Hid ((storeVar 68 ⟨w.heap.size + 1 + 1, 0, none⟩ (.agg (faceC (faceE p x zs)))).run Tryz.prog W6 = .ok () W7) ∧ Hid (FaI w W7 w.heap.size C NX (faceC (faceE p x zs)) (faceC (faceE p x zs))) := ⟨_, Lib.hid (store_face face0 (faceE p x zs) W6 (w.heap.size + 2) _ I.out.oth), Lib.hid (I.out.rowOth _)⟩
          have c27 : W7.cell? ⟨w.heap.size + 1, 27, none⟩ = some (.bool (faceE p x zs).rcv) := I7.out.ownCell (k := 27) rfl
          have d27 : W7.cell? ⟨w.heap.size + 1 + 1, 27, none⟩ = some (.bool (faceE p x zs).rcv) := I7.out.othCell (k := 27) rfl
          have fd27 : W7.frozen? ⟨w.heap.size + 1 + 1, 27, none⟩ = false := I7.out.othFree 27
          have I8 : Hid (FaI w (W7.setCell ⟨w.heap.size + 1 + 1, 27, none⟩ (.bool (!(faceE p x zs).rcv))) w.heap.size C NX (faceC (faceE p x zs)) (faceC (faceO p x zs))) := Lib.hid (by have i := I7.out.setOth 27 (.bool (!(faceE p x zs).rcv)); rw [face_set1] at i; exact i)
          generalize hE : faceE p x zs = E at *
          have HE := Lib.hid hE
          clear hE
          obtain ⟨CE, hCE⟩ : ∃ X : Array Value, X = faceC E := ⟨_, rfl⟩
          rw [← hCE] at LD HS
          go_upto_region 13 with (first | (refine wpList_load_known rfl 68 _ rfl _ _ rfl LD.out ?_) | (refine wpList_store_plain rfl rfl 68 _ _ rfl ⟨w.heap.size + 1 + 1, 0, none⟩ (.agg CE) (by simp [go_sem, Act.eval]) (by simp [go_sem, Act.eval]) HS.out ?_))
          clear LD HS I
          go_upto_region 14 with fail
          generalize W7.setCell ⟨w.heap.size + 1 + 1, 27, none⟩ (.bool (!E.rcv)) = W8 at I8 ⊢
          clear I7 c27 d27 fd27
          obtain ⟨O, hO⟩ : ∃ X, X = faceO p x zs := ⟨_, rfl⟩
          rw [← hO] at I8
          have HO := Lib.hid hO
          clear hO
          have I9 := Lib.hid I8.out.drew
          have LA := Lib.hid (load_face E W8.drew (w.heap.size + 1) _ I9.out.own)
          have LB := Lib.hid (load_face O W8.drew (w.heap.size + 1 + 1) _ I9.out.oth)
          obtain ⟨WA, SA, IA⟩ : ∃ W', Hid ((storeVar 68 ⟨w.heap.size + 1, 0, none⟩ (.agg (faceC E))).run Tryz.prog W8.drew = .ok () W') ∧ Hid (FaI w W' w.heap.size C NX (faceC E) (faceC O)) := ⟨_, Lib.hid (store_face E E W8.drew (w.heap.size + 1) _ I9.out.own), Lib.hid (I9.out.rowOwn _)⟩
          obtain ⟨WB, SB, IB⟩ : ∃ W', Hid ((storeVar 68 ⟨w.heap.size + 1 + 1, 0, none⟩ (.agg (faceC O))).run Tryz.prog WA = .ok () W') ∧ Hid (FaI w W' w.heap.size C NX (faceC E) (faceC O)) := ⟨_, Lib.hid (store_face O O WA (w.heap.size + 1 + 1) _ IA.out.oth), Lib.hid (IA.out.rowOth _)⟩
          have LC := Lib.hid (load_face O WA (w.heap.size + 1 + 1) _ IA.out.oth)
          have RA := Lib.hid (load_face E WB (w.heap.size + 1) _ IB.out.own)
          have RB := Lib.hid (load_face O WB (w.heap.size + 1 + 1) _ IB.out.oth)
          have HLOW := Lib.hid IB.out.low
          have HEE := Lib.hid (show E = E from rfl)
          generalize hCE1 : faceC E = CE1 at *
          have HCE := Lib.hid hCE1
          clear hCE1
          generalize hCO1 : faceC O = CO1 at *
          have HCO := Lib.hid hCO1
          clear hCO1
          refine wp_region_any (by kernel_rfl) ?_
          change wpAny _ _ _ _ _ _ _ (World.drew _)
          refine wpAny_ready (rs := [0, 1]) (by kernel_rfl) (by simp) ?_
          refine AllReady.cons rfl (fun K hK => step_load_known rfl 68 _ rfl ⟨w.heap.size + 1, 0, none⟩ (.agg CE1) (by simp [go_sem, Act.eval]) LA.out (hK _ _ ?_)) (AllReady.cons rfl (fun K hK => step_load_known rfl 68 _ rfl ⟨w.heap.size + 1 + 1, 0, none⟩ (.agg CO1) (by simp [go_sem, Act.eval]) LB.out (hK _ _ ?_)) AllReady.nil)
          · try simp only [Act.put, List.setIfInBounds_toArray, List.set_cons_zero, List.set_cons_succ]
            refine wpAny_ready (rs := [1, 2]) (by kernel_rfl) (by simp) ?_
            refine AllReady.cons rfl (fun K hK => step_load_known rfl 68 _ rfl ⟨w.heap.size + 1 + 1, 0, none⟩ (.agg CO1) (by simp [go_sem, Act.eval]) LB.out (hK _ _ ?_)) (AllReady.cons rfl (fun K hK => step_store_known rfl rfl 68 _ _ rfl ⟨w.heap.size + 1, 0, none⟩ (.agg CE1) (by simp [go_sem, Act.eval]) (by simp [go_sem, Act.eval]) SA.out (hK _ _ ?_)) AllReady.nil)
            · try simp only [Act.put, List.setIfInBounds_toArray, List.set_cons_zero, List.set_cons_succ]
              refine wpAny_ready (rs := [2]) (by kernel_rfl) (by simp) ?_
              refine AllReady.cons rfl (fun K hK => step_store_known rfl rfl 68 _ _ rfl ⟨w.heap.size + 1, 0, none⟩ (.agg CE1) (by simp [go_sem, Act.eval]) (by simp [go_sem, Act.eval]) SA.out (hK _ _ ?_)) AllReady.nil
              try simp only [Act.put, List.setIfInBounds_toArray, List.set_cons_zero, List.set_cons_succ]
              refine wpAny_ready (rs := [3]) (by kernel_rfl) (by simp) ?_
              refine AllReady.cons rfl (fun K hK => step_store_known rfl rfl 68 _ _ rfl ⟨w.heap.size + 1 + 1, 0, none⟩ (.agg CO1) (by simp [go_sem, Act.eval]) (by simp [go_sem, Act.eval]) SB.out (hK _ _ ?_)) AllReady.nil
              try simp only [Act.put, List.setIfInBounds_toArray, List.set_cons_zero, List.set_cons_succ]
              refine wpAny_done (by kernel_rfl) ?_ _
              go_wp2
              refine bodyPost_ret (results_cells2 rfl _ (a := ⟨w.heap.size + 1, 0, none⟩) (b := ⟨w.heap.size + 1 + 1, 0, none⟩) rfl rfl RA.out RB.out) rfl ⟨?_, HLOW.out⟩
              rw [HE.out, ← HO.out, HCE.out, HCO.out]
            · try simp only [Act.put, List.setIfInBounds_toArray, List.set_cons_zero, List.set_cons_succ]
              refine wpAny_ready (rs := [1]) (by kernel_rfl) (by simp) ?_
              refine AllReady.cons rfl (fun K hK => step_load_known rfl 68 _ rfl ⟨w.heap.size + 1 + 1, 0, none⟩ (.agg CO1) (by simp [go_sem, Act.eval]) LC.out (hK _ _ ?_)) AllReady.nil
              try simp only [Act.put, List.setIfInBounds_toArray, List.set_cons_zero, List.set_cons_succ]
              refine wpAny_ready (rs := [3]) (by kernel_rfl) (by simp) ?_
              refine AllReady.cons rfl (fun K hK => step_store_known rfl rfl 68 _ _ rfl ⟨w.heap.size + 1 + 1, 0, none⟩ (.agg CO1) (by simp [go_sem, Act.eval]) (by simp [go_sem, Act.eval]) SB.out (hK _ _ ?_)) AllReady.nil
              try simp only [Act.put, List.setIfInBounds_toArray, List.set_cons_zero, List.set_cons_succ]
              refine wpAny_done (by kernel_rfl) ?_ _
              go_wp2
              refine bodyPost_ret (results_cells2 rfl _ (a := ⟨w.heap.size + 1, 0, none⟩) (b := ⟨w.heap.size + 1 + 1, 0, none⟩) rfl rfl RA.out RB.out) rfl ⟨?_, HLOW.out⟩
              rw [HE.out, ← HO.out, HCE.out, HCO.out]
          · try simp only [Act.put, List.setIfInBounds_toArray, List.set_cons_zero, List.set_cons_succ]
            refine wpAny_ready (rs := [0]) (by kernel_rfl) (by simp) ?_
            refine AllReady.cons rfl (fun K hK => step_load_known rfl 68 _ rfl ⟨w.heap.size + 1, 0, none⟩ (.agg CE1) (by simp [go_sem, Act.eval]) LA.out (hK _ _ ?_)) AllReady.nil
            try simp only [Act.put, List.setIfInBounds_toArray, List.set_cons_zero, List.set_cons_succ]
            refine wpAny_ready (rs := [2]) (by kernel_rfl) (by simp) ?_
            refine AllReady.cons rfl (fun K hK => step_store_known rfl rfl 68 _ _ rfl ⟨w.heap.size + 1, 0, none⟩ (.agg CE1) (by simp [go_sem, Act.eval]) (by simp [go_sem, Act.eval]) SA.out (hK _ _ ?_)) AllReady.nil
            try simp only [Act.put, List.setIfInBounds_toArray, List.set_cons_zero, List.set_cons_succ]
            refine wpAny_ready (rs := [3]) (by kernel_rfl) (by simp) ?_
            refine AllReady.cons rfl (fun K hK => step_store_known rfl rfl 68 _ _ rfl ⟨w.heap.size + 1 + 1, 0, none⟩ (.agg CO1) (by simp [go_sem, Act.eval]) (by simp [go_sem, Act.eval]) SB.out (hK _ _ ?_)) AllReady.nil
            try simp only [Act.put, List.setIfInBounds_toArray, List.set_cons_zero, List.set_cons_succ]
            refine wpAny_done (by kernel_rfl) ?_ _
            go_wp2
            refine bodyPost_ret (results_cells2 rfl _ (a := ⟨w.heap.size + 1, 0, none⟩) (b := ⟨w.heap.size + 1 + 1, 0, none⟩) rfl rfl RA.out RB.out) rfl ⟨?_, HLOW.out⟩
            rw [HE.out, ← HO.out, HCE.out, HCO.out]
end Go.Proofs.YtphabkaiheplpaaGreatDoor
/- match.Fit by contract. -/
set_option linter.unusedVariables false
set_option linter.unusedSimpArgs false
set_option maxRecDepth 100000
namespace Go.Proofs.YtphabkaiheplpaaGreatDoor
open Go.RowKit Go.Shelf

theorem side_size : (Tryz.prog.info? 28).map (·.size) = some 28 := by kernel_rfl
theorem side_desc : (match Tryz.prog.underlying 28 with | some (.struct _) => true | _ => false) = true := by kernel_rfl
theorem load_side (p : Int) (x : Nt) (W : World) (g : Nat) (T : TypeId) (hg : W.heap[g]? = some (.cells (sideC p x) T (0, 0))) : (loadVar 28 ⟨g, 0, none⟩).run Tryz.prog W = .ok (.agg (sideC p x)) W := by
  have hd := side_desc
  cases hu : Tryz.prog.underlying 28 with
  | none => rw [hu] at hd; cases hd
  | some d =>
    rw [hu] at hd
    refine loadVar_part Tryz.prog W g 0 _ (sideC p x).toList d hu (by cases d <;> simp_all) side_size fun j v hv => ?_
    rw [cell_of_row W g (0 + j) _ T _ hg, Nat.zero_add, ← Array.getElem?_toList]
    exact hv
structure Fc.wf (f : Fc) : Prop where
  trade : I64 f.trade
  settle : I64 f.settle
  code : ∀ i, 0 ≤ f.code i ∧ f.code i ≤ 255
  qty : I64 f.qty
  cur : f.cur.size ≤ maxLen
  from_ : f.from_.size ≤ maxLen
  to_ : f.to_.size ≤ maxLen
  s : ∀ i, (f.s i).size ≤ maxLen
  b : ∀ i, (f.b i).size ≤ maxLen
theorem face_key : Tryz.prog.keyTypeAt 5 68 = true := by kernel_rfl
theorem face_formed (f : Fc) : (Value.agg (faceC f)).formed Tryz.prog 68 = true := by kernel_rfl
def faceL (f : Fc) : List Lit := [.int .i64 f.trade, .int .i64 f.settle,
  .int .u8 (f.code 0), .int .u8 (f.code 1), .int .u8 (f.code 2), .int .u8 (f.code 3), .int .u8 (f.code 4), .int .u8 (f.code 5), .int .u8 (f.code 6), .int .u8 (f.code 7), .int .u8 (f.code 8), .int .u8 (f.code 9), .int .u8 (f.code 10), .int .u8 (f.code 11),
  .int .i64 f.qty, .bool f.pay, .string f.cur.data.toList, .string f.from_.data.toList, .string f.to_.data.toList, .string (f.s 0).data.toList, .string (f.s 1).data.toList, .string (f.s 2).data.toList, .string (f.s 3).data.toList, .string (f.b 0).data.toList, .string (f.b 1).data.toList, .string (f.b 2).data.toList, .string (f.b 3).data.toList, .bool f.rcv, .bool f.right]
theorem i64_lit {n : Int} (h : I64 n) : (Lit.int .i64 n).wf = true := by
  unfold I64 at h
  have h1 : IntKind.i64.min = -9223372036854775808 := by decide
  have h2 : IntKind.i64.max = 9223372036854775807 := by decide
  simp only [Lit.wf, h1, h2, h.1, h.2, decide_true, Bool.and_self]
theorem u8_lit {n : Int} (h : 0 ≤ n ∧ n ≤ 255) : (Lit.int .u8 n).wf = true := by
  have h1 : IntKind.u8.min = 0 := by decide
  have h2 : IntKind.u8.max = 255 := by decide
  simp only [Lit.wf, h1, h2, h.1, h.2, decide_true, Bool.and_self]
set_option maxHeartbeats 2000000 in
theorem face_lits (f : Fc) (h : f.wf) : Tryz.prog.keyLits 5 68 (faceC f).toList = some (faceL f) := by
  have u0 := Tryz.underlying68
  have u1 := Tryz.underlying23
  have u2 := Tryz.underlying5
  have u3 := Tryz.underlying66
  have u4 := Tryz.underlying9
  have u5 := Tryz.underlying3
  have u6 := Tryz.underlying2
  have u7 := Tryz.underlying4
  have c0 : Tryz.prog.cellsOf 68 = 29 := by kernel_rfl
  have c1 : Tryz.prog.cellsOf 23 = 12 := by kernel_rfl
  have c2 : Tryz.prog.cellsOf 5 = 1 := by kernel_rfl
  have c3 : Tryz.prog.cellsOf 66 = 4 := by kernel_rfl
  have c4 : Tryz.prog.cellsOf 9 = 1 := by kernel_rfl
  have c5 : Tryz.prog.cellsOf 3 = 1 := by kernel_rfl
  have c6 : Tryz.prog.cellsOf 2 = 1 := by kernel_rfl
  have c7 : Tryz.prog.cellsOf 4 = 1 := by kernel_rfl
  have w1 := i64_lit h.trade
  have w2 := i64_lit h.settle
  have w3 := i64_lit h.qty
  have w4 := fun i => u8_lit (h.code i)
  have l1 := h.cur
  have l2 := h.from_
  have l3 := h.to_
  have l4 := h.s
  have l5 := h.b
  simp [faceC, faceL, Program.keyLits, u0, u1, u2, u3, u4, u5, u6, u7, c0, c1, c2, c3, c4, c5, c6, c7, w1, w2, w3, w4, l1, l2, l3, l4, l5, List.range, List.range.loop]
open Classical in
noncomputable def sameFace (f g : Fc) : Bool := decide (faceL f = faceL g)
theorem face_neq (f g : Fc) (hf : f.wf) (hg : g.wf) (w : World) : (binOp .neq 68 (.agg (faceC f)) (.agg (faceC g))).run Tryz.prog w = .ok (.bool (!sameFace f g)) w :=
  neq_lits (m := 5) (by decide) face_key (face_formed f) (face_formed g) (face_lits f hf) (face_lits g hg) (by unfold sameFace; simp) w
theorem faceC_size (f : Fc) : (faceC f).size = 29 := rfl
theorem setRow_alloc (W : World) (o : Obj) (g : Nat) (vs : Array Value) (h : g < W.heap.size) : (W.alloc o).setRow g vs = (W.setRow g vs).alloc o := by
  unfold World.setRow World.alloc
  congr 1
  apply Array.ext
  · simp
  · intro k h1 h2
    simp only [Array.getElem_modify, Array.getElem_push, Array.size_modify]
    by_cases hk : k < W.heap.size
    · simp [hk]
    · have : k = W.heap.size := by simp at h2; omega
      have hne : ¬ g = k := by omega
      simp [hk, hne]
theorem store_face_new (f : Fc) (W : World) (n : Nat) (hn : n = W.heap.size) (old : Array Value) (ho : old.size = 29) (T : TypeId) : (storeVar 68 ⟨n, 0, none⟩ (.agg (faceC f))).run Tryz.prog (W.alloc (.cells old T)) = .ok () (W.alloc (.cells (faceC f) T)) := by
  subst hn
  exact storeVar_new Tryz.prog W T _ old (faceC f) face_size (by rw [ho]; rfl) (faceC_one f)
theorem store_face_under (f : Fc) (W : World) (n : Nat) (hn : n = W.heap.size) (old : Array Value) (ho : old.size = 29) (T : TypeId) (o : Obj) : (storeVar 68 ⟨n, 0, none⟩ (.agg (faceC f))).run Tryz.prog ((W.alloc (.cells old T)).alloc o) = .ok () ((W.alloc (.cells (faceC f) T)).alloc o) := by
  subst hn
  have hg : ((W.alloc (.cells old T)).alloc o).heap[W.heap.size]? = some (.cells old T (0, 0)) := by rw [heap_alloc_old _ _ (by simp)]; exact heap_alloc_new W _
  rw [run_storeVar_row _ W.heap.size T _ old (faceC f) hg face_size (by rw [ho]; rfl) (faceC_one f), setRow_alloc _ _ _ _ (by simp), setRow_new]
theorem faceOf_agg (p : Int) (x : Nt) (A : Option Addr) (n c : Nat) (zs : List ByteArray) {w W : World} (hB : Below w.heap.size w W) (hp : I64 p) (hx : x.wf) (hr : RdT w A n zs) (hsh : Short zs) (hn : n ≤ 140737488351232) (hpw : PowT w) :
    Calls Tryz.prog 23 #[.agg (sideC p x), .slice A n c] W fun e w' => e = .returned (.tuple #[.agg (faceC (faceE p x zs)), .agg (faceC (faceO p x zs))]) ∧ Below W.heap.size W w' :=
  faceOf_any p x A n c zs W hp hx (hr.below hB) hsh hn (hpw.below hB)
theorem faceE_wf (p : Int) (x : Nt) (zs : List ByteArray) (hx : x.wf) (hsh : Short zs) : (faceE p x zs).wf := by
  have hD : (faceD p x zs).wf := by
    have m : ∀ s : ByteArray, s.size ≤ 140737488351232 → s.size ≤ maxLen := fun s h => by unfold maxLen; omega
    have hB : (faceB x).wf := ⟨hx.trade, hx.settle, hx.code, hx.qty, by show ByteArray.size (if x.pay = true then x.currency else ⟨#[]⟩) ≤ maxLen; split; exact m _ hx.currency; exact Nat.zero_le _, m _ hx.account, m _ hx.other, fun i => Nat.zero_le _, fun i => Nat.zero_le _⟩
    unfold faceD
    split
    · exact ⟨hB.trade, hB.settle, hB.code, hB.qty, hB.cur, hB.from_, hB.to_, fun i => bicP_le _ i (hsh _), fun i => bicP_le _ i hx.agent⟩
    · exact hB
  unfold faceE
  split
  · exact ⟨hD.trade, hD.settle, hD.code, hD.qty, hD.cur, hD.to_, hD.from_, hD.b, hD.s⟩
  · exact hD
theorem faceO_wf (p : Int) (x : Nt) (zs : List ByteArray) (hx : x.wf) (hsh : Short zs) : (faceO p x zs).wf := by
  have h := faceE_wf p x zs hx hsh
  exact ⟨h.trade, h.settle, h.code, h.qty, h.cur, h.from_, h.to_, h.s, h.b⟩
/-- Both sides and the first two faces lie in memory. -/
structure FtI (w W : World) (b : Nat) (C D E O : Array Value) : Prop where
  low : Below w.heap.size w W
  one : W.heap[w.heap.size]? = some (.cells C 28 (0, 0))
  two : W.heap[w.heap.size + 1]? = some (.cells D 28 (0, 0))
  own : W.heap[b]? = some (.cells E 68 (0, 0))
  oth : W.heap[b + 1]? = some (.cells O 68 (0, 0))
  room : b + 1 < W.heap.size
  old : w.heap.size + 1 < b
theorem FtI.mk1 {w W w1 : World} {C D : Array Value} (h : Below w.heap.size w W) (hb : Below W.heap.size W w1) (g1 : W.heap[w.heap.size]? = some (.cells C 28 (0, 0))) (g2 : W.heap[w.heap.size + 1]? = some (.cells D 28 (0, 0))) (E O : Array Value) :
    FtI w ((w1.alloc (.cells E 68)).alloc (.cells O 68)) w1.heap.size C D E O := by
  have z2 : w.heap.size + 1 < W.heap.size := by
    rw [Array.getElem?_eq_some_iff] at g2
    exact g2.1
  have z3 := hb.size
  refine ⟨bl_alloc (bl_alloc (bl_then h hb) _) _, ?_, ?_, ?_, ?_, by simp, by omega⟩
  · rw [heap_alloc_old _ _ (by simp; omega), heap_alloc_old _ _ (by omega), hb.block _ (by omega)]; exact g1
  · rw [heap_alloc_old _ _ (by simp; omega), heap_alloc_old _ _ (by omega), hb.block _ z2]; exact g2
  · rw [heap_alloc_old _ _ (by simp)]; exact heap_alloc_new _ _
  · exact heap_at _ _ _ (by simp)
/-- The same behind the second call. -/
structure FtJ (w W : World) (b1 b2 : Nat) (C D O E : Array Value) : Prop where
  low : Below w.heap.size w W
  one : W.heap[w.heap.size]? = some (.cells C 28 (0, 0))
  two : W.heap[w.heap.size + 1]? = some (.cells D 28 (0, 0))
  oth1 : W.heap[b1 + 1]? = some (.cells O 68 (0, 0))
  own2 : W.heap[b2]? = some (.cells E 68 (0, 0))
theorem FtI.mk2 {w W w2 : World} {b : Nat} {C D E O : Array Value} (h : FtI w W b C D E O) (hb : Below W.heap.size W w2) (E2 O2 : Array Value) :
    FtJ w ((w2.alloc (.cells E2 68)).alloc (.cells O2 68)) b w2.heap.size C D O E2 := by
  have z1 := h.room
  have z2 := h.old
  have z3 := hb.size
  have e : ∀ (i : Nat), i < W.heap.size → ((w2.alloc (.cells E2 68)).alloc (.cells O2 68)).heap[i]? = W.heap[i]? := fun i hi => by
    rw [heap_alloc_old _ _ (by simp; omega), heap_alloc_old _ _ (by omega), hb.block _ hi]
  refine ⟨bl_alloc (bl_alloc (bl_then h.low hb) _) _, ?_, ?_, ?_, ?_⟩
  · rw [e _ (by omega)]; exact h.one
  · rw [e _ (by omega)]; exact h.two
  · rw [e _ (by omega)]; exact h.oth
  · rw [heap_alloc_old _ _ (by simp)]; exact heap_alloc_new _ _
/-- What match.Fit computes out of the faces. -/
noncomputable def fitM (p q : Int) (x y : Nt) (zs : List ByteArray) (tol : Int) : Int × Bool :=
  if x.receive || !sameFace (faceE q y zs) (faceO p x zs) || !(faceE q y zs).right then (0, false)
  else if !(faceE q y zs).pay then (0, true)
  else if !nearB x.amount y.amount tol then (0, false) else (x.amount, true)
set_option maxHeartbeats 4000000 in
theorem fit_walk (p q : Int) (x y : Nt) (A : Option Addr) (n c : Nat) (zs : List ByteArray) (tol : Int) (w : World) (hp : I64 p) (hq : I64 q) (hx : x.wf) (hy : y.wf) (ht : I64 tol) (hr : RdT w A n zs) (hsh : Short zs) (hn : n ≤ 140737488351232) (hpw : PowT w) :
    Calls Tryz.prog 7 #[sideV p x, sideV q y, .slice A n c, .int .i64 tol] w fun e w' => e = .returned (.tuple #[.int .i64 (fitM p q x y zs tol).1, .bool (fitM p q x y zs tol).2]) ∧ Below w.heap.size w w' := by
  generalize hF : fitM p q x y zs tol = R
  have HF := Lib.hid hF
  clear hF
  rw [sideV_agg, sideV_agg]
  have hB2 : Below w.heap.size w ((w.alloc (.cells (sideC p x) 28)).alloc (.cells (sideC q y) 28)) := bl_alloc (bl_alloc (bl_refl w) _) _
  have HB2 := Lib.hid hB2
  clear hB2
  have L1 := Lib.hid (load_side p x ((w.alloc (.cells (sideC p x) 28)).alloc (.cells (sideC q y) 28)) w.heap.size _ (heap_alloc2_old w _ _))
  have G1 := Lib.hid (heap_alloc2_old w (.cells (sideC p x) 28) (.cells (sideC q y) 28))
  have G2 := Lib.hid (heap_alloc2_new w (.cells (sideC p x) 28) (.cells (sideC q y) 28))
  have FO1 := Lib.hid (faceOf_agg p x A n c zs HB2.out hp hx hr hsh hn hpw)
  have FO2 := Lib.hid (fun W hB => faceOf_agg (W := W) q y A n c zs hB hq hy hr hsh hn hpw)
  have SX1 := Lib.hid (store_face_under (faceE p x zs))
  have SX2 := Lib.hid (store_face_new (faceO p x zs))
  have SY1 := Lib.hid (store_face_under (faceE q y zs))
  have SY2 := Lib.hid (store_face_new (faceO q y zs))
  have LS2 := Lib.hid (load_side q y)
  have LF := Lib.hid load_face
  have hne := Lib.hid (face_neq _ _ (faceE_wf q y zs hy hsh) (faceO_wf p x zs hx hsh))
  have k0 := Lib.hid (show (sideC p x)[4]? = some (.bool x.receive) ∧ (sideC p x)[24]? = some (.int .i64 x.amount) ∧ (sideC q y)[24]? = some (.int .i64 y.amount) from ⟨rfl, rfl, rfl⟩)
  generalize sideC p x = CX at *
  generalize sideC q y = CY at *
  go_enter Tryz.func7, Tryz.ntmps7
  go_upto_region 1 with fail
  go_upto_region 2 with (first | (refine wpList_load_known rfl 28 _ rfl _ _ rfl L1.out ?_) | (go_at_call 23; (with_reducible refine FO1.out.mono ?_); rintro e w1 ⟨rfl, hb1⟩; have HB1 := Lib.hid hb1; clear hb1 L1) | (refine wpList_store_plain rfl rfl 68 (.tmp 10) (.tmp 18) rfl ⟨w1.heap.size, 0, none⟩ (.agg (faceC (faceE p x zs))) (by simp [go_sem, Act.eval]) (by simp [go_sem, Act.eval]) (SX1.out w1 _ rfl _ rfl _ _) ?_) | (refine wpList_store_plain rfl rfl 68 (.tmp 11) (.tmp 19) rfl ⟨w1.heap.size + 1, 0, none⟩ (.agg (faceC (faceO p x zs))) (by simp [go_sem, Act.eval]) (by simp [go_sem, Act.eval]) (SX2.out (w1.alloc _) _ (by simp) _ rfl _) ?_))
  clear FO1 SX1 SX2
  have I1 := Lib.hid (FtI.mk1 HB2.out HB1.out G1.out G2.out (faceC (faceE p x zs)) (faceC (faceO p x zs)))
  have hb1 : w.heap.size + 1 < w1.heap.size := by have := HB1.out.size; simp at this; omega
  generalize (w1.alloc (.cells (faceC (faceE p x zs)) 68)).alloc (.cells (faceC (faceO p x zs)) 68) = W3 at I1 ⊢
  generalize w1.heap.size = b1 at I1 hb1 ⊢
  have L2 := Lib.hid (LS2.out W3 (w.heap.size + 1) _ I1.out.two)
  have FO3 := Lib.hid (FO2.out W3 I1.out.low)
  clear FO2 LS2 G1 G2 HB1 HB2
  go_upto_region 3 with (first | (refine wpList_load_known rfl 28 _ rfl _ _ rfl L2.out ?_) | (go_at_call 23; (with_reducible refine FO3.out.mono ?_); rintro e w2 ⟨rfl, hb2⟩; have HB2 := Lib.hid hb2; clear hb2 L2) | (refine wpList_store_plain rfl rfl 68 (.tmp 12) (.tmp 24) rfl ⟨w2.heap.size, 0, none⟩ (.agg (faceC (faceE q y zs))) (by simp [go_sem, Act.eval]) (by simp [go_sem, Act.eval]) (SY1.out w2 _ rfl _ rfl _ _) ?_) | (refine wpList_store_plain rfl rfl 68 (.tmp 13) (.tmp 25) rfl ⟨w2.heap.size + 1, 0, none⟩ (.agg (faceC (faceO q y zs))) (by simp [go_sem, Act.eval]) (by simp [go_sem, Act.eval]) (SY2.out (w2.alloc _) _ (by simp) _ rfl _) ?_))
  clear FO3 SY1 SY2
  have I2 := Lib.hid (I1.out.mk2 HB2.out (faceC (faceE q y zs)) (faceC (faceO q y zs)))
  generalize (w2.alloc (.cells (faceC (faceE q y zs)) 68)).alloc (.cells (faceC (faceO q y zs)) 68) = W5 at I2 ⊢
  generalize w2.heap.size = b2 at I2 ⊢
  clear HB2 I1
  have LA := Lib.hid (LF.out (faceE q y zs) W5 b2 _ I2.out.own2)
  have LB := Lib.hid (LF.out (faceO p x zs) W5 (b1 + 1) _ I2.out.oth1)
  have r4 : W5.cell? ⟨w.heap.size, 4, none⟩ = some (.bool x.receive) := by rw [cell_of_row _ _ _ _ _ _ I2.out.one]; exact k0.out.1
  have m1 : W5.cell? ⟨w.heap.size, 24, none⟩ = some (.int .i64 x.amount) := by rw [cell_of_row _ _ _ _ _ _ I2.out.one]; exact k0.out.2.1
  have m2 : W5.cell? ⟨w.heap.size + 1, 24, none⟩ = some (.int .i64 y.amount) := by rw [cell_of_row _ _ _ _ _ _ I2.out.two]; exact k0.out.2.2
  have c28 : W5.cell? ⟨b2, 28, none⟩ = some (.bool (faceE q y zs).right) := by rw [cell_of_row _ _ _ _ _ _ I2.out.own2]; rfl
  have c15 : W5.cell? ⟨b2, 15, none⟩ = some (.bool (faceE q y zs).pay) := by rw [cell_of_row _ _ _ _ _ _ I2.out.own2]; rfl
  have HLOW := Lib.hid I2.out.low
  have HF0 := HF.out
  unfold fitM at HF0
  have HN := Lib.hid (fun W => near_any x.amount y.amount tol hx.amount hy.amount ht W)
  clear HF LF k0 I2
  have hne2 := hne.out
  clear hne
  generalize sameFace (faceE q y zs) (faceO p x zs) = sm at hne2 HF0
  generalize (faceE q y zs).right = rt at c28 HF0
  generalize (faceE q y zs).pay = pa at c15 HF0
  generalize x.receive = rv at r4 HF0
  generalize nearB x.amount y.amount tol = nb at HN HF0
  generalize faceC (faceE q y zs) = CE2 at LA hne2 ⊢
  generalize faceC (faceO p x zs) = CO1 at LB hne2 ⊢
  cases rv
  · cases sm
    · have HF := Lib.hid (show ((0, false) : Int × Bool) = R from HF0)
      clear HF0
      go_wp2_with (first | (refine wpList_load_guarded 68 (.tmp 12) rfl _ _ rfl LA.out (by rfl) ?_) | (refine wpList_load_guarded 68 (.tmp 11) rfl _ _ rfl LB.out (by rfl) ?_) | (go_at_call 24; (with_reducible refine (HN.out _).mono ?_); rintro e w3 ⟨rfl, rfl⟩))
      go_ret2
      exact ⟨by rw [← HF.out]; rfl, HLOW.out⟩
    · cases rt
      · have HF := Lib.hid (show ((0, false) : Int × Bool) = R from HF0)
        clear HF0
        go_wp2_with (first | (refine wpList_load_guarded 68 (.tmp 12) rfl _ _ rfl LA.out (by rfl) ?_) | (refine wpList_load_guarded 68 (.tmp 11) rfl _ _ rfl LB.out (by rfl) ?_) | (go_at_call 24; (with_reducible refine (HN.out _).mono ?_); rintro e w3 ⟨rfl, rfl⟩))
        go_ret2
        exact ⟨by rw [← HF.out]; rfl, HLOW.out⟩
      · cases pa
        · have HF := Lib.hid (show ((0, true) : Int × Bool) = R from HF0)
          clear HF0
          go_wp2_with (first | (refine wpList_load_guarded 68 (.tmp 12) rfl _ _ rfl LA.out (by rfl) ?_) | (refine wpList_load_guarded 68 (.tmp 11) rfl _ _ rfl LB.out (by rfl) ?_) | (go_at_call 24; (with_reducible refine (HN.out _).mono ?_); rintro e w3 ⟨rfl, rfl⟩))
          go_ret2
          exact ⟨by rw [← HF.out]; rfl, HLOW.out⟩
        · cases nb
          · have HF := Lib.hid (show ((0, false) : Int × Bool) = R from HF0)
            clear HF0
            go_wp2_with (first | (refine wpList_load_guarded 68 (.tmp 12) rfl _ _ rfl LA.out (by rfl) ?_) | (refine wpList_load_guarded 68 (.tmp 11) rfl _ _ rfl LB.out (by rfl) ?_) | (go_at_call 24; (with_reducible refine (HN.out _).mono ?_); rintro e w3 ⟨rfl, rfl⟩))
            go_ret2
            exact ⟨by rw [← HF.out]; rfl, HLOW.out⟩
          · have HF := Lib.hid (show ((x.amount, true) : Int × Bool) = R from HF0)
            clear HF0
            go_wp2_with (first | (refine wpList_load_guarded 68 (.tmp 12) rfl _ _ rfl LA.out (by rfl) ?_) | (refine wpList_load_guarded 68 (.tmp 11) rfl _ _ rfl LB.out (by rfl) ?_) | (go_at_call 24; (with_reducible refine (HN.out _).mono ?_); rintro e w3 ⟨rfl, rfl⟩))
            go_ret2
            exact ⟨by rw [← HF.out]; rfl, HLOW.out⟩
  · have HF := Lib.hid (show ((0, false) : Int × Bool) = R from HF0)
    clear HF0
    go_wp2_with (first | (refine wpList_load_guarded 68 (.tmp 12) rfl _ _ rfl LA.out (by rfl) ?_) | (refine wpList_load_guarded 68 (.tmp 11) rfl _ _ rfl LB.out (by rfl) ?_) | (go_at_call 24; (with_reducible refine (HN.out _).mono ?_); rintro e w3 ⟨rfl, rfl⟩))
    go_ret2
    exact ⟨by rw [← HF.out]; rfl, HLOW.out⟩
end Go.Proofs.YtphabkaiheplpaaGreatDoor
/- match.Fit answers as the document's Fit: the plain law. -/
set_option linter.unusedVariables false
set_option linter.unusedSimpArgs false
set_option maxRecDepth 100000
namespace Go.Proofs.YtphabkaiheplpaaGreatDoor
open Go.RowKit Go.Shelf

theorem ba_eq {a b : ByteArray} : (a == b) = decide (a = b) := by
  rw [ba_beq, Bool.eq_iff_iff]
  simp only [decide_eq_true_eq]
  exact ba_data
theorem ba_bne {a b : ByteArray} : (a != b) = decide (a ≠ b) := by
  unfold bne
  rw [ba_eq]
  by_cases h : a = b <;> simp [h]
def SameF (f g : Fc) : Prop := (f.trade = g.trade ∧ f.settle = g.settle ∧ sameCode f.code g.code = true ∧ f.qty = g.qty ∧ f.pay = g.pay ∧ f.cur = g.cur) ∧ (f.from_ = g.from_ ∧ f.to_ = g.to_) ∧ (f.s 0 = g.s 0 ∧ f.s 1 = g.s 1 ∧ f.s 2 = g.s 2 ∧ f.s 3 = g.s 3) ∧ (f.b 0 = g.b 0 ∧ f.b 1 = g.b 1 ∧ f.b 2 = g.b 2 ∧ f.b 3 = g.b 3) ∧ f.rcv = g.rcv ∧ f.right = g.right
theorem sameFace_iff (f g : Fc) : sameFace f g = true ↔ SameF f g := by
  unfold sameFace SameF faceL sameCode
  simp only [decide_eq_true_eq, List.cons.injEq, Lit.int.injEq, Lit.bool.injEq, Lit.string.injEq, ba_list, and_true, true_and]
  constructor
  · rintro ⟨a1, a2, d0, d1, d2, d3, d4, d5, d6, d7, d8, d9, d10, d11, a3, a4, a5, a6, a7, s0, s1, s2, s3, b0, b1, b2, b3, a8, a9⟩
    exact ⟨⟨a1, a2, ⟨d0, d1, d2, d3, d4, d5, d6, d7, d8, d9, d10, d11⟩, a3, a4, a5⟩, ⟨a6, a7⟩, ⟨s0, s1, s2, s3⟩, ⟨b0, b1, b2, b3⟩, a8, a9⟩
  · rintro ⟨⟨a1, a2, ⟨d0, d1, d2, d3, d4, d5, d6, d7, d8, d9, d10, d11⟩, a3, a4, a5⟩, ⟨a6, a7⟩, ⟨s0, s1, s2, s3⟩, ⟨b0, b1, b2, b3⟩, a8, a9⟩
    exact ⟨a1, a2, d0, d1, d2, d3, d4, d5, d6, d7, d8, d9, d10, d11, a3, a4, a5, a6, a7, s0, s1, s2, s3, b0, b1, b2, b3, a8, a9⟩
theorem sameP_iff (a b : ByteArray) : sameP a b = true ↔ bicP a 0 = bicP b 0 ∧ bicP a 1 = bicP b 1 ∧ bicP a 2 = bicP b 2 ∧ bicP a 3 = bicP b 3 := by unfold sameP; simp
theorem isB_iff (zs : List ByteArray) (p : Int) (b : ByteArray) : isB zs p b = true ↔ (0 ≤ p ∧ p < zs.length) ∧ bicOK (zs.getD p.toNat ⟨#[]⟩) = true ∧ bicOK b = true ∧ sameP (zs.getD p.toNat ⟨#[]⟩) b = true := by
  unfold isB sameBic
  simp only [Bool.and_eq_true, decide_eq_true_eq]
  constructor
  · rintro ⟨h1, h2, ⟨h3, h4⟩, h5⟩; exact ⟨⟨h1, h2⟩, h3, h4, h5⟩
  · rintro ⟨⟨h1, h2⟩, h3, h4, h5⟩; exact ⟨h1, h2, ⟨h3, h4⟩, h5⟩
theorem okP_iff (p : Int) (x : Nt) (zs : List ByteArray) : okP p x zs = true ↔ x.cancel = false ∧ 0 ≤ p ∧ p < zs.length := by
  unfold okP
  simp only [Bool.and_eq_true, decide_eq_true_eq, Bool.not_eq_true']
/-- What both ask of the two sides, but for the amounts. -/
def Good (p q : Int) (x y : Nt) (zs : List ByteArray) : Prop :=
  (y.receive = true ∧ x.cancel = false ∧ y.cancel = false) ∧ (x.trade = y.trade ∧ x.settle = y.settle ∧ sameCode x.code y.code = true ∧ x.qty = y.qty ∧ x.pay = y.pay) ∧ (x.account = y.other ∧ x.other = y.account) ∧ (isB zs q x.agent = true ∧ isB zs p y.agent = true) ∧ (x.pay = true → x.currency = y.currency)
theorem sameCode_comm (f g : Nat → Int) : sameCode f g = sameCode g f := by
  unfold sameCode
  congr 1
  apply propext
  simp only [eq_comm]
theorem face_good (p q : Int) (x y : Nt) (zs : List ByteArray) (hx : x.receive = false) : (SameF (faceE q y zs) (faceO p x zs) ∧ (faceE q y zs).right = true) ↔ Good p q x y zs := by
  have eO : faceO p x zs = { faceD p x zs with rcv := true } := by
    have hr : (faceD p x zs).rcv = false := by unfold faceD; split <;> exact hx
    unfold faceO faceE
    rw [hx]
    simp only [Bool.false_eq_true, if_false, hr]
    rfl
  rw [eO]
  cases hy : y.receive with
  | false =>
    have hr : (faceE q y zs).rcv = false := by
      unfold faceE
      rw [hy]
      simp only [Bool.false_eq_true, if_false]
      unfold faceD
      split <;> exact hy
    constructor
    · rintro ⟨⟨_, _, _, _, h, _⟩, _⟩
      rw [hr] at h
      cases h
    · rintro ⟨⟨h, _⟩, _⟩
      rw [hy] at h
      cases h
  | true =>
    have eE : faceE q y zs = { faceD q y zs with from_ := (faceD q y zs).to_, to_ := (faceD q y zs).from_, s := (faceD q y zs).b, b := (faceD q y zs).s } := by
      unfold faceE
      rw [hy, if_pos rfl]
    rw [eE]
    cases ho : okP q y zs with
    | false =>
      have hr : (faceD q y zs).right = false := by unfold faceD; rw [ho]; rfl
      constructor
      · rintro ⟨_, h⟩
        have h : (faceD q y zs).right = true := h
        rw [hr] at h
        cases h
      · rintro ⟨⟨_, _, h1⟩, _, _, ⟨h2, _⟩, _⟩
        rw [(okP_iff q y zs).2 ⟨h1, ((isB_iff _ _ _).1 h2).1⟩] at ho
        cases ho
    | true =>
      have hq := (okP_iff q y zs).1 ho
      have eDy : faceD q y zs = { faceB y with s := bicP (zs.getD q.toNat ⟨#[]⟩), b := bicP y.agent, right := bicOK (zs.getD q.toNat ⟨#[]⟩) && bicOK y.agent } := by unfold faceD; rw [ho, if_pos rfl]
      rw [eDy]
      cases hp : okP p x zs with
      | false =>
        have hr : (faceD p x zs).right = false := by unfold faceD; rw [hp]; rfl
        constructor
        · rintro ⟨⟨_, _, _, _, _, h1⟩, h2⟩
          have h1 : (bicOK (zs.getD q.toNat ⟨#[]⟩) && bicOK y.agent) = (faceD p x zs).right := h1
          have h2 : (bicOK (zs.getD q.toNat ⟨#[]⟩) && bicOK y.agent) = true := h2
          rw [hr, h2] at h1
          cases h1
        · rintro ⟨⟨_, h1, _⟩, _, _, ⟨_, h2⟩, _⟩
          rw [(okP_iff p x zs).2 ⟨h1, ((isB_iff _ _ _).1 h2).1⟩] at hp
          cases hp
      | true =>
        have hpp := (okP_iff p x zs).1 hp
        have eDx : faceD p x zs = { faceB x with s := bicP (zs.getD p.toNat ⟨#[]⟩), b := bicP x.agent, right := bicOK (zs.getD p.toNat ⟨#[]⟩) && bicOK x.agent } := by unfold faceD; rw [hp, if_pos rfl]
        rw [eDx]
        unfold Good
        rw [isB_iff, isB_iff, sameP_iff, sameP_iff]
        have hq2 := hq.2
        have hp2 := hpp.2
        generalize zs.getD q.toNat ⟨#[]⟩ = zq
        generalize zs.getD p.toNat ⟨#[]⟩ = zp
        constructor
        · rintro ⟨⟨⟨a1, a2, a3, a4, a5, a6⟩, ⟨f1, f2⟩, ⟨s0, s1, s2, s3⟩, ⟨b0, b1, b2, b3⟩, _, r1⟩, r2⟩
          have r1 : (bicOK zq && bicOK y.agent) = (bicOK zp && bicOK x.agent) := r1
          have r2 : (bicOK zq && bicOK y.agent) = true := r2
          rw [r2] at r1
          have r3 := Bool.and_eq_true_iff.1 r2
          have r4 := Bool.and_eq_true_iff.1 r1.symm
          have a5 : y.pay = x.pay := a5
          have a6 : (if y.pay then y.currency else (⟨#[]⟩ : ByteArray)) = (if x.pay then x.currency else ⟨#[]⟩) := a6
          refine ⟨⟨hy, hpp.1, hq.1⟩, ⟨a1.symm, a2.symm, (sameCode_comm _ _).trans a3, a4.symm, a5.symm⟩, ⟨f1.symm, f2.symm⟩, ⟨⟨hq2, r3.1, r4.2, b0, b1, b2, b3⟩, ⟨hp2, r4.1, r3.2, s0.symm, s1.symm, s2.symm, s3.symm⟩⟩, fun hpay => ?_⟩
          rw [a5, hpay, if_pos rfl, if_pos rfl] at a6
          exact a6.symm
        · rintro ⟨⟨_, h1, h2⟩, ⟨a1, a2, a3, a4, a5⟩, ⟨f1, f2⟩, ⟨⟨_, k1, k2, b0, b1, b2, b3⟩, ⟨_, k3, k4, s0, s1, s2, s3⟩⟩, cur⟩
          refine ⟨⟨⟨a1.symm, a2.symm, (sameCode_comm _ _).trans a3, a4.symm, a5.symm, ?_⟩, ⟨f1.symm, f2.symm⟩, ⟨s0.symm, s1.symm, s2.symm, s3.symm⟩, ⟨b0, b1, b2, b3⟩, hy, ?_⟩, ?_⟩
          · show (if y.pay then y.currency else (⟨#[]⟩ : ByteArray)) = (if x.pay then x.currency else ⟨#[]⟩)
            rw [← a5]
            cases hpay : x.pay with
            | false => rfl
            | true => rw [if_pos rfl, if_pos rfl]; exact (cur hpay).symm
          · show (bicOK zq && bicOK y.agent) = (bicOK zp && bicOK x.agent)
            rw [k1, k2, k3, k4]
          · show (bicOK zq && bicOK y.agent) = true
            rw [k1, k4]; rfl
theorem faceE_pay (q : Int) (y : Nt) (zs : List ByteArray) : (faceE q y zs).pay = y.pay := by
  have h : (faceD q y zs).pay = y.pay := by unfold faceD; split <;> rfl
  unfold faceE
  split
  · exact h
  · exact h
theorem fitE_good (p q : Int) (x y : Nt) (zs : List ByteArray) (tol : Int) (hx : x.receive = false) (h : Good p q x y zs) : fitE p q x y zs tol = if !x.pay then (0, true) else if !nearB x.amount y.amount tol then (0, false) else (x.amount, true) := by
  obtain ⟨⟨h1, h2, h3⟩, ⟨a1, a2, a3, a4, a5⟩, ⟨f1, f2⟩, ⟨i1, i2⟩, cur⟩ := h
  unfold fitE unlike
  simp only [hx, h1, h2, h3, a1, a2, a3, a4, a5, f1, f2, i1, i2, bne_self_eq_false, ba_bne, ne_eq, not_true_eq_false, decide_false, Bool.or_false, Bool.not_true, Bool.false_eq_true, if_false, Bool.false_or]
  rw [← a5]
  cases hp : x.pay with
  | false => rfl
  | true =>
    rw [cur hp]
    simp
theorem fitE_bad (p q : Int) (x y : Nt) (zs : List ByteArray) (tol : Int) (h : x.receive = true ∨ ¬ Good p q x y zs) : fitE p q x y zs tol = (0, false) := by
  rcases h with h | h
  · unfold fitE unlike
    rw [h]
    rfl
  · unfold fitE
    split
    · rfl
    · rename_i hu
      split
      · rfl
      · rename_i hv
        unfold unlike at hu
        simp only [Bool.or_eq_true, not_or, Bool.not_eq_true, Bool.not_eq_false', bne_eq_false_iff_eq, ba_bne, ne_eq, decide_eq_false_iff_not, Decidable.not_not] at hu hv
        obtain ⟨⟨⟨⟨⟨⟨⟨⟨u1, u2⟩, u3⟩, u4⟩, u5⟩, u6⟩, u7⟩, u8⟩, u9⟩ := hu
        obtain ⟨⟨⟨v1, v2⟩, v3⟩, v4⟩ := hv
        split
        · rename_i hp
          exact absurd ⟨⟨u2, u3, u4⟩, ⟨u5, u6, u7, u8, u9⟩, ⟨v1, v2⟩, ⟨v3, v4⟩, fun hpay => by rw [hpay] at hp; cases hp⟩ h
        · split
          · rfl
          · rename_i hw
            simp only [Bool.or_eq_true, not_or, Bool.not_eq_true, Bool.not_eq_false', ba_bne, ne_eq, decide_eq_false_iff_not, Decidable.not_not] at hw
            exact absurd ⟨⟨u2, u3, u4⟩, ⟨u5, u6, u7, u8, u9⟩, ⟨v1, v2⟩, ⟨v3, v4⟩, fun _ => hw.1⟩ h
theorem fitM_eq (p q : Int) (x y : Nt) (zs : List ByteArray) (tol : Int) : fitM p q x y zs tol = fitE p q x y zs tol := by
  unfold fitM
  rw [faceE_pay]
  cases hx : x.receive with
  | true => rw [fitE_bad p q x y zs tol (.inl hx)]; rfl
  | false =>
    by_cases hg : Good p q x y zs
    · rw [fitE_good p q x y zs tol hx hg]
      have h := (face_good p q x y zs hx).2 hg
      rw [(sameFace_iff _ _).2 h.1, h.2, hg.2.1.2.2.2.2]
      rfl
    · rw [fitE_bad p q x y zs tol (.inr hg)]
      have h := fun k => hg ((face_good p q x y zs hx).1 k)
      by_cases hs : sameFace (faceE q y zs) (faceO p x zs) = true
      · have hr : (faceE q y zs).right = false := by
          cases hr : (faceE q y zs).right with
          | false => rfl
          | true => exact absurd ⟨(sameFace_iff _ _).1 hs, hr⟩ h
        rw [hs, hr]
        rfl
      · rw [Bool.not_eq_true] at hs
        rw [hs]
        rfl
theorem fit_any (p q : Int) (x y : Nt) (A : Option Addr) (n c : Nat) (zs : List ByteArray) (tol : Int) (w : World) (hp : I64 p) (hq : I64 q) (hx : x.wf) (hy : y.wf) (ht : I64 tol) (hr : RdT w A n zs) (hsh : Short zs) (hn : n ≤ 140737488351232) (hpw : PowT w) :
    Calls Tryz.prog 7 #[sideV p x, sideV q y, .slice A n c, .int .i64 tol] w fun e w' => e = .returned (.tuple #[.int .i64 (fitE p q x y zs tol).1, .bool (fitE p q x y zs tol).2]) ∧ Below w.heap.size w w' := by
  rw [← fitM_eq]
  exact fit_walk p q x y A n c zs tol w hp hq hx hy ht hr hsh hn hpw
end Go.Proofs.YtphabkaiheplpaaGreatDoor
