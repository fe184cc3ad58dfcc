/- match.faceOf by contract. -/
import Derived.Test.YtccnfklemalmeaaDoorRefFitW
import Derived.Laws.Rows
import Derived.Deep.DeepCutAuto
import Derived.RegionTactic
import Derived.StillTailTactics
import Derived.BigRegion
set_option linter.unusedVariables false
set_option linter.unusedSimpArgs false
set_option maxRecDepth 100000
namespace Go.Proofs.YtccnfklemalmeaaDoor
open Go.RowKit Go.Shelf

/-- A face as a structure, and its 29 cells. -/
structure Fc where
  trade : Int
  settle : Int
  code : Nat → Int
  qty : Int
  pay : Bool
  cur : ByteArray
  from_ : ByteArray
  to_ : ByteArray
  s : Nat → ByteArray
  b : Nat → ByteArray
  rcv : Bool
  right : Bool
def faceC (f : Fc) : Array Value := #[.int .i64 f.trade, .int .i64 f.settle,
  .int .u8 (f.code 0), .int .u8 (f.code 1), .int .u8 (f.code 2), .int .u8 (f.code 3), .int .u8 (f.code 4), .int .u8 (f.code 5), .int .u8 (f.code 6), .int .u8 (f.code 7), .int .u8 (f.code 8), .int .u8 (f.code 9), .int .u8 (f.code 10), .int .u8 (f.code 11),
  .int .i64 f.qty, .bool f.pay, .string f.cur, .string f.from_, .string f.to_, .string (f.s 0), .string (f.s 1), .string (f.s 2), .string (f.s 3), .string (f.b 0), .string (f.b 1), .string (f.b 2), .string (f.b 3), .bool f.rcv, .bool f.right]
def none4 : Nat → ByteArray := fun _ => ⟨#[]⟩
def face0 : Fc := ⟨0, 0, fun _ => 0, 0, false, ⟨#[]⟩, ⟨#[]⟩, ⟨#[]⟩, none4, none4, false, false⟩
/-- The blocks of a call of faceOf: the side, its face, the other's, the notice. -/
structure FaI (w W : World) (n : Nat) (S N F G : Array Value) : Prop where
  low : Below n w W
  size : n + 3 < W.heap.size
  side : W.heap[n]? = some (.cells S 59 (0, 0))
  own : W.heap[n + 1]? = some (.cells F 109 (0, 0))
  oth : W.heap[n + 2]? = some (.cells G 109 (0, 0))
  not : W.heap[n + 3]? = some (.cells N 57 (0, 0))
theorem FaI.sideCell {w W : World} {n : Nat} {S N F G : Array Value} (h : FaI w W n S N F G) {k : Nat} {v : Value} (hk : S[k]? = some v) : W.cell? ⟨n, k, none⟩ = some v := by rw [cell_of_row W n k S _ _ h.side]; exact hk
theorem FaI.noteCell {w W : World} {n : Nat} {S N F G : Array Value} (h : FaI w W n S N F G) {k : Nat} {v : Value} (hk : N[k]? = some v) : W.cell? ⟨n + 3, k, none⟩ = some v := by rw [cell_of_row W _ k N _ _ h.not]; exact hk
theorem FaI.ownCell {w W : World} {n : Nat} {S N F G : Array Value} (h : FaI w W n S N F G) {k : Nat} {v : Value} (hk : F[k]? = some v) : W.cell? ⟨n + 1, k, none⟩ = some v := by rw [cell_of_row W _ k _ _ _ h.own]; exact hk
theorem FaI.othCell {w W : World} {n : Nat} {S N F G : Array Value} (h : FaI w W n S N F G) {k : Nat} {v : Value} (hk : G[k]? = some v) : W.cell? ⟨n + 2, k, none⟩ = some v := by rw [cell_of_row W _ k _ _ _ h.oth]; exact hk
theorem row_free {W : World} {g : Nat} {cs : Array Value} {t : TypeId} (h : W.heap[g]? = some (.cells cs t (0, 0))) (k : Nat) : W.frozen? ⟨g, k, none⟩ = false := by simp [World.frozen?, h]
theorem FaI.ownFree {w W : World} {n : Nat} {S N F G : Array Value} (h : FaI w W n S N F G) (k : Nat) : W.frozen? ⟨n + 1, k, none⟩ = false := row_free h.own k
theorem FaI.othFree {w W : World} {n : Nat} {S N F G : Array Value} (h : FaI w W n S N F G) (k : Nat) : W.frozen? ⟨n + 2, k, none⟩ = false := row_free h.oth k
theorem FaI.grow {w W W1 : World} {n : Nat} {S N F G : Array Value} (h : FaI w W n S N F G) (hb : Below W.heap.size W W1) : FaI w W1 n S N F G := by
  have hs := h.size
  have e : ∀ i, i ≤ n + 3 → W1.heap[i]? = W.heap[i]? := fun i hi => hb.block i (by omega)
  exact ⟨h.low.trans ⟨hb.os, hb.tape, hb.output, hb.size, fun i hi => hb.block i (by omega)⟩, Nat.lt_of_lt_of_le hs hb.size, by rw [e _ (by omega)]; exact h.side, by rw [e _ (by omega)]; exact h.own, by rw [e _ (by omega)]; exact h.oth, by rw [e _ (by omega)]; exact h.not⟩
theorem FaI.setOwn {w W : World} {n : Nat} {S N F G : Array Value} (h : FaI w W n S N F G) (k : Nat) (v : Value) : FaI w (W.setCell ⟨n + 1, k, none⟩ v) n S N (F.setIfInBounds k v) G := by
  have hs := h.size
  have e : ∀ i, i ≠ n + 1 → (W.setCell ⟨n + 1, k, none⟩ v).heap[i]? = W.heap[i]? := fun i hi => Below.heap_setCell _ _ _ _ hi
  exact ⟨h.low.setCell (by simp) v, by simpa [World.setCell] using hs, by rw [e _ (by omega)]; exact h.side, heap_setCell_same W (n + 1) k _ _ v h.own, by rw [e _ (by omega)]; exact h.oth, by rw [e _ (by omega)]; exact h.not⟩
theorem FaI.setOth {w W : World} {n : Nat} {S N F G : Array Value} (h : FaI w W n S N F G) (k : Nat) (v : Value) : FaI w (W.setCell ⟨n + 2, k, none⟩ v) n S N F (G.setIfInBounds k v) := by
  have hs := h.size
  have e : ∀ i, i ≠ n + 2 → (W.setCell ⟨n + 2, k, none⟩ v).heap[i]? = W.heap[i]? := fun i hi => Below.heap_setCell _ _ _ _ hi
  exact ⟨h.low.setCell (by simp) v, by simpa [World.setCell] using hs, by rw [e _ (by omega)]; exact h.side, by rw [e _ (by omega)]; exact h.own, heap_setCell_same W (n + 2) k _ _ v h.oth, by rw [e _ (by omega)]; exact h.not⟩
theorem FaI.drew {w W : World} {n : Nat} {S N F G : Array Value} (h : FaI w W n S N F G) : FaI w W.drew n S N F G := ⟨bl_drew h.low, h.size, h.side, h.own, h.oth, h.not⟩
theorem FaI.set9 {w W : World} {n : Nat} {S N F G : Array Value} (h : FaI w W n S N F G) (a b c d e f g i j : Value) :
    FaI w (((((((((W.setCell ⟨n + 1, 19, none⟩ a).setCell ⟨n + 1, 20, none⟩ b).setCell ⟨n + 1, 21, none⟩ c).setCell ⟨n + 1, 22, none⟩ d).setCell ⟨n + 1, 23, none⟩ e).setCell ⟨n + 1, 24, none⟩ f).setCell ⟨n + 1, 25, none⟩ g).setCell ⟨n + 1, 26, none⟩ i).setCell ⟨n + 1, 28, none⟩ j).drew n S N
      (((((((((F.setIfInBounds 19 a).setIfInBounds 20 b).setIfInBounds 21 c).setIfInBounds 22 d).setIfInBounds 23 e).setIfInBounds 24 f).setIfInBounds 25 g).setIfInBounds 26 i).setIfInBounds 28 j) G :=
  (((((((((h.setOwn 19 a).setOwn 20 b).setOwn 21 c).setOwn 22 d).setOwn 23 e).setOwn 24 f).setOwn 25 g).setOwn 26 i).setOwn 28 j).drew
theorem FaI.set10 {w W : World} {n : Nat} {S N F G : Array Value} (h : FaI w W n S N F G) (y z a b c d e f g i : Value) :
    FaI w ((((((((((W.setCell ⟨n + 1, 17, none⟩ y).setCell ⟨n + 1, 18, none⟩ z).setCell ⟨n + 1, 19, none⟩ a).setCell ⟨n + 1, 20, none⟩ b).setCell ⟨n + 1, 21, none⟩ c).setCell ⟨n + 1, 22, none⟩ d).setCell ⟨n + 1, 23, none⟩ e).setCell ⟨n + 1, 24, none⟩ f).setCell ⟨n + 1, 25, none⟩ g).setCell ⟨n + 1, 26, none⟩ i) n S N
      ((((((((((F.setIfInBounds 17 y).setIfInBounds 18 z).setIfInBounds 19 a).setIfInBounds 20 b).setIfInBounds 21 c).setIfInBounds 22 d).setIfInBounds 23 e).setIfInBounds 24 f).setIfInBounds 25 g).setIfInBounds 26 i) G :=
  (((((((((h.setOwn 17 y).setOwn 18 z).setOwn 19 a).setOwn 20 b).setOwn 21 c).setOwn 22 d).setOwn 23 e).setOwn 24 f).setOwn 25 g).setOwn 26 i
theorem heap_setRow_same (W : World) (b : Nat) (c vs : Array Value) (t : TypeId) (h : W.heap[b]? = some (.cells c t (0, 0))) : (W.setRow b vs).heap[b]? = some (.cells vs t (0, 0)) := by
  unfold World.setRow
  simp only [Array.getElem?_modify, if_true, h, Option.map_some]
theorem heap_setRow_ne (W : World) (b i : Nat) (vs : Array Value) (h : i ≠ b) : (W.setRow b vs).heap[i]? = W.heap[i]? := by
  unfold World.setRow
  simp only [Array.getElem?_modify]
  rw [if_neg (Ne.symm h)]
theorem size_setRow (W : World) (b : Nat) (vs : Array Value) : (W.setRow b vs).heap.size = W.heap.size := by
  unfold World.setRow
  simp
theorem FaI.rowOwn {w W : World} {n : Nat} {S N F G : Array Value} (vs : Array Value) (h : FaI w W n S N F G) : FaI w (W.setRow (n + 1) vs) n S N vs G := by
  have hs := h.size
  have e : ∀ i, i ≠ n + 1 → (W.setRow (n + 1) vs).heap[i]? = W.heap[i]? := fun i hi => heap_setRow_ne _ _ _ _ hi
  exact ⟨h.low.trans ⟨rfl, rfl, rfl, by rw [size_setRow]; exact Nat.le_refl _, fun i hi => e i (by omega)⟩, by rw [size_setRow]; exact hs, by rw [e _ (by omega)]; exact h.side, heap_setRow_same _ _ _ _ _ h.own, by rw [e _ (by omega)]; exact h.oth, by rw [e _ (by omega)]; exact h.not⟩
theorem FaI.rowOth {w W : World} {n : Nat} {S N F G : Array Value} (vs : Array Value) (h : FaI w W n S N F G) : FaI w (W.setRow (n + 2) vs) n S N F vs := by
  have hs := h.size
  have e : ∀ i, i ≠ n + 2 → (W.setRow (n + 2) vs).heap[i]? = W.heap[i]? := fun i hi => heap_setRow_ne _ _ _ _ hi
  exact ⟨h.low.trans ⟨rfl, rfl, rfl, by rw [size_setRow]; exact Nat.le_refl _, fun i hi => e i (by omega)⟩, by rw [size_setRow]; exact hs, by rw [e _ (by omega)]; exact h.side, by rw [e _ (by omega)]; exact h.own, heap_setRow_same _ _ _ _ _ h.oth, by rw [e _ (by omega)]; exact h.not⟩
theorem face_size : (Tryd.prog.info? 109).map (·.size) = some 29 := by kernel_rfl
theorem face_desc : (match Tryd.prog.underlying 109 with | some (.struct _) => true | _ => false) = true := by kernel_rfl
theorem faceC_one (f : Fc) : (faceC f).all (·.oneCell') = true := by simp [faceC, Value.oneCell']
theorem load_face (f : Fc) (W : World) (g : Nat) (T : TypeId) (hg : W.heap[g]? = some (.cells (faceC f) T (0, 0))) : (loadVar 109 ⟨g, 0, none⟩).run Tryd.prog W = .ok (.agg (faceC f)) W := by
  have hd := face_desc
  cases hu : Tryd.prog.underlying 109 with
  | none => rw [hu] at hd; cases hd
  | some d =>
    rw [hu] at hd
    refine loadVar_part Tryd.prog W g 0 _ (faceC f).toList d hu (by cases d <;> simp_all) face_size fun j v hv => ?_
    rw [cell_of_row W g (0 + j) _ T _ hg, Nat.zero_add, ← Array.getElem?_toList]
    exact hv
theorem store_face (f f1 : Fc) (W : World) (g : Nat) (T : TypeId) (hg : W.heap[g]? = some (.cells (faceC f) T (0, 0))) : (storeVar 109 ⟨g, 0, none⟩ (.agg (faceC f1))).run Tryd.prog W = .ok () (W.setRow g (faceC f1)) :=
  run_storeVar_row W g T _ (faceC f) (faceC f1) hg face_size rfl (faceC_one f1)
theorem wpList_store_plain {P : Program} {ops : Array Oper} {rest : List Oper} {o : Oper} {a : Act} {w w2 : World} {Q : Exit → Act → World → Prop} (hgd : o.guard = none) (hd : o.dst = none) (ty : TypeId) (x y : Operand) (ho : o.op = .store ty x y)
    (ad : Addr) (v : Value) (hx : a.eval x = .pointer (some ad)) (hy : a.eval y = v) (hl : (storeVar ty ad v).run P w = .ok () w2) (h : wpList P ops Q rest a w2) : wpList P ops Q (o :: rest) a w :=
  wpList_store_known hgd ty x y ho ad v hx hy hl (by rw [hd]; exact h)
theorem wpList_build_known {P : Program} {ops : Array Oper} {rest : List Oper} {o : Oper} {a : Act} {w : World} {Q : Exit → Act → World → Prop} (hgd : o.guard = none) (t : TypeId) (ps : Array (Nat × Operand)) (ho : o.op = .build t ps)
    (vs : Array (Nat × Value)) (v : Value) (hl : (Instr.build t vs).run P w = .ok v w) (hv : (ps.toList.map fun p => (p.1, a.eval p.2)) = vs.toList) (h : wpList P ops Q rest (a.put o.dst v) w) : wpList P ops Q (o :: rest) a w :=
  wpList_plain hgd fun _ hK => by
    have hv' : ps.map (fun (i, x) => (i, a.eval x)) = vs := by
      apply Array.toList_inj.1
      rw [Array.toList_map]
      exact hv
    unfold Oper.wp execOp
    simp only [ho, hv', Sem.run_bind, Sem.run_pure, Result.andThen_ok, hl]
    exact hK _ _ h
theorem build_face (x : Nt) (W : World) : (Instr.build 109 #[(0, .int .i64 x.trade), (1, .int .i64 x.settle), (2, .agg (codeV x.code)), (3, .int .i64 x.qty), (4, .bool x.pay), (6, .string x.account), (7, .string x.other), (10, .bool x.receive)]).run Tryd.prog W
    = .ok (.agg (faceC ⟨x.trade, x.settle, x.code, x.qty, x.pay, ⟨#[]⟩, x.account, x.other, none4, none4, x.receive, false⟩)) W :=
  run_build W _ _ _ (by kernel_rfl)
/-- The face that faceOf answers, and the other's. -/
def okP (p : Int) (x : Nt) (zs : List ByteArray) : Bool := !x.cancel && (decide (0 ≤ p) && decide (p < zs.length))
def faceA (x : Nt) : Fc := ⟨x.trade, x.settle, x.code, x.qty, x.pay, ⟨#[]⟩, x.account, x.other, none4, none4, x.receive, false⟩
def faceB (x : Nt) : Fc := { faceA x with cur := if x.pay then x.currency else ⟨#[]⟩ }
def faceD (p : Int) (x : Nt) (zs : List ByteArray) : Fc := if okP p x zs then { faceB x with s := bicP (zs.getD p.toNat ⟨#[]⟩), b := bicP x.agent, right := bicOK (zs.getD p.toNat ⟨#[]⟩) && bicOK x.agent } else faceB x
def faceE (p : Int) (x : Nt) (zs : List ByteArray) : Fc := if x.receive then { faceD p x zs with from_ := (faceD p x zs).to_, to_ := (faceD p x zs).from_, s := (faceD p x zs).b, b := (faceD p x zs).s } else faceD p x zs
def faceO (p : Int) (x : Nt) (zs : List ByteArray) : Fc := { faceE p x zs with rcv := !(faceE p x zs).rcv }
theorem bic_four (s : ByteArray) (hs : s.size ≤ 140737488351232) (w : World) (hp : PowT w) : Calls Tryd.prog 86 #[.string s] w fun e w' => ∃ E : GErr, e = .returned (.tuple #[.agg #[.string (bicP s 0), .string (bicP s 1), .string (bicP s 2), .string (bicP s 3)], E.val]) ∧ E.isNil = bicOK s ∧ E.ok ∧ Below w.heap.size w w' := bic_any s hs w hp
theorem face_set9 (f : Fc) (s b : Nat → ByteArray) (r : Bool) : (((((((((faceC f).setIfInBounds 19 (.string (s 0))).setIfInBounds 20 (.string (s 1))).setIfInBounds 21 (.string (s 2))).setIfInBounds 22 (.string (s 3))).setIfInBounds 23 (.string (b 0))).setIfInBounds 24 (.string (b 1))).setIfInBounds 25 (.string (b 2))).setIfInBounds 26 (.string (b 3))).setIfInBounds 28 (.bool r) = faceC { f with s := s, b := b, right := r } := by kernel_rfl
theorem face_set8 (f : Fc) (s b : Nat → ByteArray) : ((((((((faceC f).setIfInBounds 19 (.string (s 0))).setIfInBounds 20 (.string (s 1))).setIfInBounds 21 (.string (s 2))).setIfInBounds 22 (.string (s 3))).setIfInBounds 23 (.string (b 0))).setIfInBounds 24 (.string (b 1))).setIfInBounds 25 (.string (b 2))).setIfInBounds 26 (.string (b 3)) = faceC { f with s := s, b := b } := by kernel_rfl
theorem face_set2 (f : Fc) (s b : ByteArray) : ((faceC f).setIfInBounds 17 (.string s)).setIfInBounds 18 (.string b) = faceC { f with from_ := s, to_ := b } := by kernel_rfl
theorem face_set1 (f : Fc) (r : Bool) : (faceC f).setIfInBounds 27 (.bool r) = faceC { f with rcv := r } := by kernel_rfl
theorem results_cells2 {fn : Func} {P : Program} {i j : Tmp} {t u : TypeId} (h : fn.results = #[.cell i t, .cell j u]) (tmps : Array Value) {a b : Addr} {w : World} {v1 v2 : Value} (ha : tmps.getD i undef = .pointer (some a)) (hb : tmps.getD j undef = .pointer (some b))
    (l1 : (loadVar t a).run P w = .ok v1 w) (l2 : (loadVar u b).run P w = .ok v2 w) : (results fn tmps).run P w = .ok (.tuple #[v1, v2]) w := by
  unfold results
  rw [h]
  simp only [Array.mapM_eq_mapM_toList, List.mapM_cons, List.mapM_nil, ha, hb, asAddr, Sem.run_bind, Sem.run_pure, Sem.run_map, Result.andThen_ok, l1, l2, pure_bind, bind_pure_comp]
  rfl
theorem step_load_known {P : Program} {ops : Array Oper} {o : Oper} {a : Act} {w : World} {K : Act → World → Prop} {Q : Exit → Act → World → Prop} {F : Prop} (hgd : o.guard = none) (ty : TypeId) (x : Operand) (ho : o.op = .load ty x)
    (ad : Addr) (v : Value) (hx : a.eval x = .pointer (some ad)) (hl : (loadVar ty ad).run P w = .ok v w) (hK : K (a.put o.dst v) w) : if Region.wanted o (yielded ops a.tmps) = true then Oper.wp P o a w K Q else F := by
  have hw : Region.wanted o (yielded ops a.tmps) = true := by simp [Region.wanted, hgd]
  rw [if_pos hw]
  unfold Oper.wp execOp
  simp only [ho, hx, Instr.loadAt, Instr.sureAddr, Sem.run_bind, Sem.run_pure, Result.andThen_ok, hl]
  exact hK
theorem step_store_known {P : Program} {ops : Array Oper} {o : Oper} {a : Act} {w w2 : World} {K : Act → World → Prop} {Q : Exit → Act → World → Prop} {F : Prop} (hgd : o.guard = none) (hd : o.dst = none) (ty : TypeId) (x y : Operand) (ho : o.op = .store ty x y)
    (ad : Addr) (v : Value) (hx : a.eval x = .pointer (some ad)) (hy : a.eval y = v) (hl : (storeVar ty ad v).run P w = .ok () w2) (hK : K a w2) : if Region.wanted o (yielded ops a.tmps) = true then Oper.wp P o a w K Q else F := by
  have hw : Region.wanted o (yielded ops a.tmps) = true := by simp [Region.wanted, hgd]
  rw [if_pos hw]
  unfold Oper.wp execOp
  simp only [ho, hx, hy, Instr.storeAt, Instr.sureAddr, Sem.run_bind, Sem.run_pure, Result.andThen_ok, hl]
  have e : a.put o.dst undef = a := by rw [hd]; rfl
  rw [← e] at hK
  exact hK
theorem wpStill_load {P : Program} {ops : Array Oper} {rest : List Oper} {o : Oper} {a : Act} {w : World} {Q : Act → Prop} (hgd : o.guard = none) (ty : TypeId) (x : Operand) (ho : o.op = .load ty x)
    (ad : Addr) (v : Value) (hx : a.eval x = .pointer (some ad)) (hl : (loadVar ty ad).run P w = .ok v w) (h : wpStill P ops w Q rest (a.put o.dst v)) : wpStill P ops w Q (o :: rest) a := by
  refine wpStill_step fun K hK => ?_
  have hw : Region.wanted o (yielded ops a.tmps) = true := by simp [Region.wanted, hgd]
  rw [if_pos hw]
  unfold Oper.still execOp
  simp only [ho, hx, Instr.loadAt, Instr.sureAddr, Sem.run_bind, Sem.run_pure, Result.andThen_ok, hl, Oper.stillUpon_value]
  exact hK _ h
/-- The four cells of a block. -/
def Cells4 (W : World) (g : Nat) (a b c d : Value) : Prop := W.cell? ⟨g, 0, none⟩ = some a ∧ W.cell? ⟨g, 1, none⟩ = some b ∧ W.cell? ⟨g, 2, none⟩ = some c ∧ W.cell? ⟨g, 3, none⟩ = some d
theorem Cells4.below {W W1 : World} {g : Nat} {a b c d : Value} (h : Cells4 W g a b c d) (hb : Below W.heap.size W W1) : Cells4 W1 g a b c d := ⟨bl_cell hb h.1, bl_cell hb h.2.1, bl_cell hb h.2.2.1, bl_cell hb h.2.2.2⟩
theorem cell4 (W : World) (a b c d : Value) (t : TypeId) : Cells4 (W.alloc (.cells #[a, b, c, d] t)) W.heap.size a b c d := ⟨by simp, by simp, by simp, by simp⟩
set_option maxHeartbeats 4000000 in
theorem faceOf_any (p : Int) (x : Nt) (A : Option Addr) (n c : Nat) (zs : List ByteArray) (w : World) (hp : I64 p) (hx : x.wf) (hr : RdT w A n zs) (hsh : Short zs) (hn : n ≤ 140737488351232) (hpw : PowT w) :
    Calls Tryd.prog 58 #[sideV p x, .slice A n c] w fun e w' => e = .returned (.tuple #[.agg (faceC (faceE p x zs)), .agg (faceC (faceO p x zs))]) ∧ Below w.heap.size w w' := by
  rw [sideV_agg]
  have L1 := Lib.hid (load_note p x (((w.alloc (.cells (sideC p x) 59)).alloc (.cells (faceC face0) 109)).alloc (.cells (faceC face0) 109)) w.heap.size _ (by rw [heap_alloc_old _ _ (by simp; omega), heap_alloc_old _ _ (by simp)]; exact heap_alloc_new w _))
  have S1 := Lib.hid (store_note x)
  have c0 : (sideC p x)[0]? = some (.int .i64 p) := rfl
  generalize sideC p x = C at L1 c0 ⊢
  obtain ⟨a2, a3, a4, a5, a6, a19, a20, a21, a22, a23, a24⟩ := note_cells x
  have K1 := Lib.hid (load_code x)
  generalize noteC x = NX at L1 S1 K1 a2 a3 a4 a5 a6 a19 a20 a21 a22 a23 a24
  go_enter Tryd.func58, Tryd.ntmps58
  go_upto_region 1 with fail
  change Code.wp _ _ _ _ (((w.alloc (.cells C 59)).alloc (.cells (faceC face0) 109)).alloc (.cells (faceC face0) 109))
  have I0 : FaI w ((((w.alloc (.cells C 59)).alloc (.cells (faceC face0) 109)).alloc (.cells (faceC face0) 109)).alloc (.cells NX 57)) w.heap.size C NX (faceC face0) (faceC face0) := by
    refine ⟨bl_alloc (bl_alloc (bl_alloc (bl_alloc (bl_refl w) _) _) _) _, by simp, ?_, ?_, ?_, ?_⟩
    · rw [heap_alloc_old _ _ (by simp; omega), heap_alloc_old _ _ (by simp; omega), heap_alloc_old _ _ (by simp)]; exact heap_alloc_new w _
    · rw [heap_alloc_old _ _ (by simp), heap_alloc_old _ _ (by simp)]; exact heap_at _ _ _ (by simp)
    · rw [heap_alloc_old _ _ (by simp)]; exact heap_at _ _ _ (by simp)
    · exact heap_at _ _ _ (by simp)
  have I := Lib.hid I0
  clear I0
  have hZs : (faceC face0).size = (faceC (faceA x)).size := rfl
  generalize hz : faceC face0 = Z0 at L1 hZs ⊢
  rw [hz] at I
  go_upto_region 2 with (first | (refine wpList_load_known rfl 57 _ rfl _ _ rfl L1.out ?_) | (refine wpList_store_plain rfl rfl 57 _ _ rfl _ _ rfl rfl (S1.out _ _ (by simp) _ rfl _) ?_))
  clear L1 S1
  generalize ((((w.alloc (.cells C 59)).alloc (.cells Z0 109)).alloc (.cells Z0 109)).alloc (.cells NX 57)) = W at I ⊢
  have r3 : W.cell? ⟨w.heap.size + 1 + 1 + 1, 3, none⟩ = _ := I.out.noteCell a3
  have r4 : W.cell? ⟨w.heap.size + 1 + 1 + 1, 4, none⟩ = _ := I.out.noteCell a4
  have r5 : W.cell? ⟨w.heap.size + 1 + 1 + 1, 5, none⟩ = _ := I.out.noteCell a5
  have r6 : W.cell? ⟨w.heap.size + 1 + 1 + 1, 6, none⟩ = _ := I.out.noteCell a6
  have r19 : W.cell? ⟨w.heap.size + 1 + 1 + 1, 19, none⟩ = _ := I.out.noteCell a19
  have r20 : W.cell? ⟨w.heap.size + 1 + 1 + 1, 20, none⟩ = _ := I.out.noteCell a20
  have r22 : W.cell? ⟨w.heap.size + 1 + 1 + 1, 22, none⟩ = _ := I.out.noteCell a22
  have HB := Lib.hid (build_face x W)
  have HK := Lib.hid (K1.out W (w.heap.size + 1 + 1 + 1) _ I.out.not)
  obtain ⟨W2, HS, I2⟩ : ∃ W2, Hid ((storeVar 109 ⟨w.heap.size + 1, 0, none⟩ (.agg (faceC (faceA x)))).run Tryd.prog W = .ok () W2) ∧ Hid (FaI w W2 w.heap.size C NX (faceC (faceA x)) (faceC face0)) := ⟨_, Lib.hid (by have := I.out.own; exact run_storeVar_row W _ _ _ Z0 (faceC (faceA x)) this face_size hZs (faceC_one _)), Lib.hid (by have := I.out.rowOwn (faceC (faceA x)); first | exact this | (rw [← hz]; exact this) | (rw [hz]; exact this) | (rw [hz] at this; exact this))⟩
  clear K1 hz hZs
  generalize codeV x.code = CV at HK HB
  have HB := HB.out
  unfold faceA at HS I2
  obtain ⟨CF1, hCF⟩ : ∃ C : Array Value, C = faceC ⟨x.trade, x.settle, x.code, x.qty, x.pay, ⟨#[]⟩, x.account, x.other, none4, none4, x.receive, false⟩ := ⟨_, rfl⟩
  rw [← hCF] at HB HS
  have HB := Lib.hid HB
  have HC := Lib.hid hCF
  clear hCF
  go_upto_region 3 with (first | (refine wpList_load_known rfl 54 _ rfl _ _ rfl HK.out ?_) | (refine wpList_build_known rfl 109 _ rfl _ _ HB.out rfl ?_) | (refine wpList_store_plain rfl rfl 109 _ _ rfl ⟨w.heap.size + 1, 0, none⟩ (.agg CF1) (by simp [go_sem, Act.eval]) (by simp [go_sem, Act.eval]) HS.out ?_))
  clear HK HB HS I r3 r4 r5 r6 r19 r20 r22 HC
  have I : Hid (FaI w W2 w.heap.size C NX (faceC (faceA x)) (faceC face0)) := I2
  clear I2
  have r4 : W2.cell? ⟨w.heap.size + 1 + 1 + 1, 4, none⟩ = _ := I.out.noteCell a4
  go_upto_if 31 with fail
  go_cut [] (fun wx => FaI w wx w.heap.size C NX (faceC (faceB x)) (faceC face0))
  case first =>
    cases hp5 : x.pay
    · go_wp2
      go_meet
      have := I.out
      have e : faceA x = faceB x := by unfold faceB; rw [hp5]; rfl
      rw [← e]
      exact this
    · have r24 : W2.cell? ⟨w.heap.size + 1 + 1 + 1, 24, none⟩ = _ := I.out.noteCell a24
      have c16 : W2.cell? ⟨w.heap.size + 1, 16, none⟩ = some (.string ⟨#[]⟩) := I.out.ownCell rfl
      have f16 := I.out.ownFree 16
      go_wp2
      go_meet
      have := I.out.setOwn 16 (.string x.currency)
      have e : (faceC (faceA x)).setIfInBounds 16 (.string x.currency) = faceC (faceB x) := by unfold faceB; rw [hp5]; rfl
      rw [← e]
      exact this
  case rest =>
    have I := Lib.hid hcut
    clear hcut
    have r2 : wc.cell? ⟨w.heap.size + 1 + 1 + 1, 2, none⟩ = _ := I.out.noteCell a2
    have s0 : wc.cell? ⟨w.heap.size, 0, none⟩ = _ := I.out.sideCell c0
    have hl := hr.1
    go_upto_region 5 with fail
    go_cut [49] (fun cc wx => cc = .bool (okP p x zs) ∧ wx = wc)
    case first =>
      have HR := Lib.hid hr
      clear hr
      go_wp2
      all_goals go_meet
      all_goals refine ⟨?_, rfl⟩
      all_goals unfold okP
      all_goals rw [hl]
      all_goals first | (simp [*]; done) | (simp_all; done) | (simp [*]; omega)
    case rest =>
      obtain ⟨rfl, rfl⟩ := hcut
      go_upto_if 49 with fail
      go_cut [] (fun wx => FaI w wx w.heap.size C NX (faceC (faceD p x zs)) (faceC face0))
      case first =>
        cases hok : okP p x zs
        · go_wp2
          go_meet
          have e : faceD p x zs = faceB x := by unfold faceD; rw [hok]; rfl
          rw [e]
          exact I.out
        · have hok2 := hok
          unfold okP at hok2
          simp only [Bool.and_eq_true, decide_eq_true_eq, Bool.not_eq_true'] at hok2
          obtain ⟨hcan, hp0, hp1⟩ := hok2
          obtain ⟨k, rfl⟩ : ∃ k : Nat, p = k := ⟨p.toNat, by omega⟩
          have hk : k < n := by omega
          obtain ⟨ad, rfl, hcell⟩ := (hr.below I.out.low).at_ hk
          have hD : faceD k x zs = { faceB x with s := bicP (zs.getD k ⟨#[]⟩), b := bicP x.agent, right := bicOK (zs.getD k ⟨#[]⟩) && bicOK x.agent } := by unfold faceD; rw [hok]; rfl
          have hz := hsh k
          have HD := Lib.hid hD
          clear hok hD hcan hr hsh hp0 hp1
          generalize zs.getD k ⟨#[]⟩ = z at hcell hz HD
          have HZ := fun W hp => bic_four z hz W hp
          have HPW := Lib.hid (hpw.below I.out.low)
          go_upto_region 7 with (go_at_call 86; (with_reducible refine (HZ _ HPW.out).mono ?_); rintro e w1 ⟨E1, rfl, hE1, hok1, hb1⟩; have I1 := Lib.hid (I.out.grow hb1); have HE1 := Lib.hid hE1; clear hE1 hb1 I)
          have I2 := Lib.hid (I1.out.grow (bl_alloc (bl_refl w1) (.cells #[.string (bicP z 0), .string (bicP z 1), .string (bicP z 2), .string (bicP z 3)] 107)))
          have n0 := cell4 w1 (.string (bicP z 0)) (.string (bicP z 1)) (.string (bicP z 2)) (.string (bicP z 3)) 107
          have hlt : w1.heap.size < (w1.alloc (.cells #[.string (bicP z 0), .string (bicP z 1), .string (bicP z 2), .string (bicP z 3)] 107)).heap.size := by simp
          clear I1 HZ hcell
          generalize w1.alloc (.cells #[.string (bicP z 0), .string (bicP z 1), .string (bicP z 2), .string (bicP z 3)] 107) = W7 at I2 n0 hlt ⊢
          generalize w1.heap.size = b1 at n0 hlt ⊢
          have HA := fun W hp => bic_four x.agent hx.agent W hp
          have HPW7 := Lib.hid (hpw.below I2.out.low)
          have r21 : W7.cell? ⟨w.heap.size + 1 + 1 + 1, 21, none⟩ = _ := I2.out.noteCell a21
          have N0 := Lib.hid n0
          clear n0
          go_upto_region 8 with (go_at_call 86; (with_reducible refine (HA _ HPW7.out).mono ?_); rintro e w2 ⟨E2, rfl, hE2, hok2, hb2⟩; have I3 := Lib.hid (I2.out.grow hb2); have HE2 := Lib.hid hE2; have N1 := Lib.hid (Cells4.below N0.out hb2); have hlt2 := Lib.hid (Nat.lt_of_lt_of_le hlt hb2.size); clear hE2 hb2 I2)
          have I4 := Lib.hid (I3.out.grow (bl_alloc (bl_refl w2) (.cells #[.string (bicP x.agent 0), .string (bicP x.agent 1), .string (bicP x.agent 2), .string (bicP x.agent 3)] 107)))
          have M0 := Lib.hid (cell4 w2 (.string (bicP x.agent 0)) (.string (bicP x.agent 1)) (.string (bicP x.agent 2)) (.string (bicP x.agent 3)) 107)
          have N2 := Lib.hid (Cells4.below N1.out (bl_alloc (bl_refl w2) (.cells #[.string (bicP x.agent 0), .string (bicP x.agent 1), .string (bicP x.agent 2), .string (bicP x.agent 3)] 107)))
          clear HA N0 N1 r21 hlt
          generalize w2.alloc (.cells #[.string (bicP x.agent 0), .string (bicP x.agent 1), .string (bicP x.agent 2), .string (bicP x.agent 3)] 107) = W8 at I4 M0 N2 ⊢
          have hne2 : b1 ≠ w2.heap.size := by have := hlt2.out; omega
          generalize w2.heap.size = b2 at M0 hne2 hlt2 ⊢
          obtain ⟨m0, m1, m2, m3⟩ := M0.out
          obtain ⟨k0, k1, k2, k3⟩ := N2.out
          clear M0 N2 hlt2 hne2
          have f19 := I4.out.ownFree 19
          have c19 : W8.cell? ⟨w.heap.size + 1, 19, none⟩ = _ := I4.out.ownCell (k := 19) rfl
          have f20 := I4.out.ownFree 20
          have c20 : W8.cell? ⟨w.heap.size + 1, 20, none⟩ = _ := I4.out.ownCell (k := 20) rfl
          have f21 := I4.out.ownFree 21
          have c21 : W8.cell? ⟨w.heap.size + 1, 21, none⟩ = _ := I4.out.ownCell (k := 21) rfl
          have f22 := I4.out.ownFree 22
          have c22 : W8.cell? ⟨w.heap.size + 1, 22, none⟩ = _ := I4.out.ownCell (k := 22) rfl
          have f23 := I4.out.ownFree 23
          have c23 : W8.cell? ⟨w.heap.size + 1, 23, none⟩ = _ := I4.out.ownCell (k := 23) rfl
          have f24 := I4.out.ownFree 24
          have c24 : W8.cell? ⟨w.heap.size + 1, 24, none⟩ = _ := I4.out.ownCell (k := 24) rfl
          have f25 := I4.out.ownFree 25
          have c25 : W8.cell? ⟨w.heap.size + 1, 25, none⟩ = _ := I4.out.ownCell (k := 25) rfl
          have f26 := I4.out.ownFree 26
          have c26 : W8.cell? ⟨w.heap.size + 1, 26, none⟩ = _ := I4.out.ownCell (k := 26) rfl
          have f28 := I4.out.ownFree 28
          have c28 : W8.cell? ⟨w.heap.size + 1, 28, none⟩ = _ := I4.out.ownCell (k := 28) rfl
          have g1 := fun x c W => guard_err E1 x c W
          have g2 := fun x c W => guard_err E2 x c W
          have v1 := fun W => eql_nil_err E1 W
          have v2 := fun W => eql_nil_err E2 W
          cases hb1 : bicOK z
          · have e1 : E1.isNil = false := HE1.out.trans hb1
            rw [e1] at v1
            go_region
            go_wp2
            go_meet
            rw [HD.out]
            have i5 := I4.out.set9 (.string (bicP z 0)) (.string (bicP z 1)) (.string (bicP z 2)) (.string (bicP z 3)) (.string (bicP x.agent 0)) (.string (bicP x.agent 1)) (.string (bicP x.agent 2)) (.string (bicP x.agent 3)) (.bool false)
            rw [face_set9] at i5
            have hv : (bicOK z && bicOK x.agent) = false := by rw [hb1]; rfl
            rw [hv]
            exact i5
          · have e1 : E1.isNil = true := HE1.out.trans hb1
            rw [e1] at v1
            cases hb2 : bicOK x.agent
            · have e2 : E2.isNil = false := HE2.out.trans hb2
              rw [e2] at v2
              go_region
              go_wp2
              go_meet
              rw [HD.out]
              have i5 := I4.out.set9 (.string (bicP z 0)) (.string (bicP z 1)) (.string (bicP z 2)) (.string (bicP z 3)) (.string (bicP x.agent 0)) (.string (bicP x.agent 1)) (.string (bicP x.agent 2)) (.string (bicP x.agent 3)) (.bool false)
              rw [face_set9] at i5
              have hv : (bicOK z && bicOK x.agent) = false := by rw [hb1, hb2]; rfl
              rw [hv]
              exact i5
            · have e2 : E2.isNil = true := HE2.out.trans hb2
              rw [e2] at v2
              go_region
              go_wp2
              go_meet
              rw [HD.out]
              have i5 := I4.out.set9 (.string (bicP z 0)) (.string (bicP z 1)) (.string (bicP z 2)) (.string (bicP z 3)) (.string (bicP x.agent 0)) (.string (bicP x.agent 1)) (.string (bicP x.agent 2)) (.string (bicP x.agent 3)) (.bool true)
              rw [face_set9] at i5
              have hv : (bicOK z && bicOK x.agent) = true := by rw [hb1, hb2]; rfl
              rw [hv]
              exact i5
      case rest =>
        have I := Lib.hid hcut
        clear hcut
        obtain ⟨W5, hW5⟩ : ∃ X, X = wc := ⟨_, rfl⟩
        subst hW5
        have r3 : W5.cell? ⟨w.heap.size + 1 + 1 + 1, 3, none⟩ = _ := I.out.noteCell a3
        clear r2 s0
        go_upto_if 77 with fail
        go_cut [] (fun wx => FaI w wx w.heap.size C NX (faceC (faceE p x zs)) (faceC face0))
        case first =>
          have hE := Lib.hid (show faceE p x zs = if x.receive then { faceD p x zs with from_ := (faceD p x zs).to_, to_ := (faceD p x zs).from_, s := (faceD p x zs).b, b := (faceD p x zs).s } else faceD p x zs from rfl)
          generalize faceD p x zs = D at I hE
          cases hrc : x.receive
          · go_wp2
            go_meet
            rw [hE.out, hrc]
            exact I.out
          · have HC := Lib.hid hrc
            clear hrc
            have c17 : W5.cell? ⟨w.heap.size + 1, 17, none⟩ = some (.string D.from_) := I.out.ownCell (k := 17) rfl
            have f17 := I.out.ownFree 17
            have c18 : W5.cell? ⟨w.heap.size + 1, 18, none⟩ = some (.string D.to_) := I.out.ownCell (k := 18) rfl
            have f18 := I.out.ownFree 18
            have c19 : W5.cell? ⟨w.heap.size + 1, 19, none⟩ = some (.string (D.s 0)) := I.out.ownCell (k := 19) rfl
            have f19 := I.out.ownFree 19
            have c20 : W5.cell? ⟨w.heap.size + 1, 20, none⟩ = some (.string (D.s 1)) := I.out.ownCell (k := 20) rfl
            have f20 := I.out.ownFree 20
            have c21 : W5.cell? ⟨w.heap.size + 1, 21, none⟩ = some (.string (D.s 2)) := I.out.ownCell (k := 21) rfl
            have f21 := I.out.ownFree 21
            have c22 : W5.cell? ⟨w.heap.size + 1, 22, none⟩ = some (.string (D.s 3)) := I.out.ownCell (k := 22) rfl
            have f22 := I.out.ownFree 22
            have c23 : W5.cell? ⟨w.heap.size + 1, 23, none⟩ = some (.string (D.b 0)) := I.out.ownCell (k := 23) rfl
            have f23 := I.out.ownFree 23
            have c24 : W5.cell? ⟨w.heap.size + 1, 24, none⟩ = some (.string (D.b 1)) := I.out.ownCell (k := 24) rfl
            have f24 := I.out.ownFree 24
            have c25 : W5.cell? ⟨w.heap.size + 1, 25, none⟩ = some (.string (D.b 2)) := I.out.ownCell (k := 25) rfl
            have f25 := I.out.ownFree 25
            have c26 : W5.cell? ⟨w.heap.size + 1, 26, none⟩ = some (.string (D.b 3)) := I.out.ownCell (k := 26) rfl
            have f26 := I.out.ownFree 26
            go_wp2
            go_meet
            rw [hE.out, HC.out, if_pos rfl]
            have i5 := I.out.set10 (.string D.to_) (.string D.from_) (.string (D.b 0)) (.string (D.b 1)) (.string (D.b 2)) (.string (D.b 3)) (.string (D.s 0)) (.string (D.s 1)) (.string (D.s 2)) (.string (D.s 3))
            rw [face_set2, face_set8] at i5
            exact i5
        case rest =>
          have I := Lib.hid hcut
          clear hcut
          obtain ⟨W6, hW6⟩ : ∃ X, X = wc := ⟨_, rfl⟩
          subst hW6
          have LD := Lib.hid (load_face (faceE p x zs) W6 (w.heap.size + 1) _ I.out.own)
          obtain ⟨W7, HS, I7⟩ : ∃ W7, Hid ((storeVar 109 ⟨w.heap.size + 1 + 1, 0, none⟩ (.agg (faceC (faceE p x zs)))).run Tryd.prog W6 = .ok () W7) ∧ Hid (FaI w W7 w.heap.size C NX (faceC (faceE p x zs)) (faceC (faceE p x zs))) := ⟨_, Lib.hid (store_face face0 (faceE p x zs) W6 (w.heap.size + 2) _ I.out.oth), Lib.hid (I.out.rowOth _)⟩
          have c27 : W7.cell? ⟨w.heap.size + 1, 27, none⟩ = some (.bool (faceE p x zs).rcv) := I7.out.ownCell (k := 27) rfl
          have d27 : W7.cell? ⟨w.heap.size + 1 + 1, 27, none⟩ = some (.bool (faceE p x zs).rcv) := I7.out.othCell (k := 27) rfl
          have fd27 : W7.frozen? ⟨w.heap.size + 1 + 1, 27, none⟩ = false := I7.out.othFree 27
          have I8 : Hid (FaI w (W7.setCell ⟨w.heap.size + 1 + 1, 27, none⟩ (.bool (!(faceE p x zs).rcv))) w.heap.size C NX (faceC (faceE p x zs)) (faceC (faceO p x zs))) := Lib.hid (by have i := I7.out.setOth 27 (.bool (!(faceE p x zs).rcv)); rw [face_set1] at i; exact i)
          generalize hE : faceE p x zs = E at *
          have HE := Lib.hid hE
          clear hE
          obtain ⟨CE, hCE⟩ : ∃ X : Array Value, X = faceC E := ⟨_, rfl⟩
          rw [← hCE] at LD HS
          go_upto_region 13 with (first | (refine wpList_load_known rfl 109 _ rfl _ _ rfl LD.out ?_) | (refine wpList_store_plain rfl rfl 109 _ _ rfl ⟨w.heap.size + 1 + 1, 0, none⟩ (.agg CE) (by simp [go_sem, Act.eval]) (by simp [go_sem, Act.eval]) HS.out ?_))
          clear LD HS I
          go_upto_region 14 with fail
          generalize W7.setCell ⟨w.heap.size + 1 + 1, 27, none⟩ (.bool (!E.rcv)) = W8 at I8 ⊢
          clear I7 c27 d27 fd27
          obtain ⟨O, hO⟩ : ∃ X, X = faceO p x zs := ⟨_, rfl⟩
          rw [← hO] at I8
          have HO := Lib.hid hO
          clear hO
          have I9 := Lib.hid I8.out.drew
          have LA := Lib.hid (load_face E W8.drew (w.heap.size + 1) _ I9.out.own)
          have LB := Lib.hid (load_face O W8.drew (w.heap.size + 1 + 1) _ I9.out.oth)
          obtain ⟨WA, SA, IA⟩ : ∃ W', Hid ((storeVar 109 ⟨w.heap.size + 1, 0, none⟩ (.agg (faceC E))).run Tryd.prog W8.drew = .ok () W') ∧ Hid (FaI w W' w.heap.size C NX (faceC E) (faceC O)) := ⟨_, Lib.hid (store_face E E W8.drew (w.heap.size + 1) _ I9.out.own), Lib.hid (I9.out.rowOwn _)⟩
          obtain ⟨WB, SB, IB⟩ : ∃ W', Hid ((storeVar 109 ⟨w.heap.size + 1 + 1, 0, none⟩ (.agg (faceC O))).run Tryd.prog WA = .ok () W') ∧ Hid (FaI w W' w.heap.size C NX (faceC E) (faceC O)) := ⟨_, Lib.hid (store_face O O WA (w.heap.size + 1 + 1) _ IA.out.oth), Lib.hid (IA.out.rowOth _)⟩
          have LC := Lib.hid (load_face O WA (w.heap.size + 1 + 1) _ IA.out.oth)
          have RA := Lib.hid (load_face E WB (w.heap.size + 1) _ IB.out.own)
          have RB := Lib.hid (load_face O WB (w.heap.size + 1 + 1) _ IB.out.oth)
          have HLOW := Lib.hid IB.out.low
          have HEE := Lib.hid (show E = E from rfl)
          generalize hCE1 : faceC E = CE1 at *
          have HCE := Lib.hid hCE1
          clear hCE1
          generalize hCO1 : faceC O = CO1 at *
          have HCO := Lib.hid hCO1
          clear hCO1
          refine wp_region_any (by kernel_rfl) ?_
          change wpAny _ _ _ _ _ _ _ (World.drew _)
          refine wpAny_ready (rs := [0, 1]) (by kernel_rfl) (by simp) ?_
          refine AllReady.cons rfl (fun K hK => step_load_known rfl 109 _ rfl ⟨w.heap.size + 1, 0, none⟩ (.agg CE1) (by simp [go_sem, Act.eval]) LA.out (hK _ _ ?_)) (AllReady.cons rfl (fun K hK => step_load_known rfl 109 _ rfl ⟨w.heap.size + 1 + 1, 0, none⟩ (.agg CO1) (by simp [go_sem, Act.eval]) LB.out (hK _ _ ?_)) AllReady.nil)
          · try simp only [Act.put, List.setIfInBounds_toArray, List.set_cons_zero, List.set_cons_succ]
            refine wpAny_ready (rs := [1, 2]) (by kernel_rfl) (by simp) ?_
            refine AllReady.cons rfl (fun K hK => step_load_known rfl 109 _ rfl ⟨w.heap.size + 1 + 1, 0, none⟩ (.agg CO1) (by simp [go_sem, Act.eval]) LB.out (hK _ _ ?_)) (AllReady.cons rfl (fun K hK => step_store_known rfl rfl 109 _ _ rfl ⟨w.heap.size + 1, 0, none⟩ (.agg CE1) (by simp [go_sem, Act.eval]) (by simp [go_sem, Act.eval]) SA.out (hK _ _ ?_)) AllReady.nil)
            · try simp only [Act.put, List.setIfInBounds_toArray, List.set_cons_zero, List.set_cons_succ]
              refine wpAny_ready (rs := [2]) (by kernel_rfl) (by simp) ?_
              refine AllReady.cons rfl (fun K hK => step_store_known rfl rfl 109 _ _ rfl ⟨w.heap.size + 1, 0, none⟩ (.agg CE1) (by simp [go_sem, Act.eval]) (by simp [go_sem, Act.eval]) SA.out (hK _ _ ?_)) AllReady.nil
              try simp only [Act.put, List.setIfInBounds_toArray, List.set_cons_zero, List.set_cons_succ]
              refine wpAny_ready (rs := [3]) (by kernel_rfl) (by simp) ?_
              refine AllReady.cons rfl (fun K hK => step_store_known rfl rfl 109 _ _ rfl ⟨w.heap.size + 1 + 1, 0, none⟩ (.agg CO1) (by simp [go_sem, Act.eval]) (by simp [go_sem, Act.eval]) SB.out (hK _ _ ?_)) AllReady.nil
              try simp only [Act.put, List.setIfInBounds_toArray, List.set_cons_zero, List.set_cons_succ]
              refine wpAny_done (by kernel_rfl) ?_ _
              go_wp2
              refine bodyPost_ret (results_cells2 rfl _ (a := ⟨w.heap.size + 1, 0, none⟩) (b := ⟨w.heap.size + 1 + 1, 0, none⟩) rfl rfl RA.out RB.out) rfl ⟨?_, HLOW.out⟩
              rw [HE.out, ← HO.out, HCE.out, HCO.out]
            · try simp only [Act.put, List.setIfInBounds_toArray, List.set_cons_zero, List.set_cons_succ]
              refine wpAny_ready (rs := [1]) (by kernel_rfl) (by simp) ?_
              refine AllReady.cons rfl (fun K hK => step_load_known rfl 109 _ rfl ⟨w.heap.size + 1 + 1, 0, none⟩ (.agg CO1) (by simp [go_sem, Act.eval]) LC.out (hK _ _ ?_)) AllReady.nil
              try simp only [Act.put, List.setIfInBounds_toArray, List.set_cons_zero, List.set_cons_succ]
              refine wpAny_ready (rs := [3]) (by kernel_rfl) (by simp) ?_
              refine AllReady.cons rfl (fun K hK => step_store_known rfl rfl 109 _ _ rfl ⟨w.heap.size + 1 + 1, 0, none⟩ (.agg CO1) (by simp [go_sem, Act.eval]) (by simp [go_sem, Act.eval]) SB.out (hK _ _ ?_)) AllReady.nil
              try simp only [Act.put, List.setIfInBounds_toArray, List.set_cons_zero, List.set_cons_succ]
              refine wpAny_done (by kernel_rfl) ?_ _
              go_wp2
              refine bodyPost_ret (results_cells2 rfl _ (a := ⟨w.heap.size + 1, 0, none⟩) (b := ⟨w.heap.size + 1 + 1, 0, none⟩) rfl rfl RA.out RB.out) rfl ⟨?_, HLOW.out⟩
              rw [HE.out, ← HO.out, HCE.out, HCO.out]
          · try simp only [Act.put, List.setIfInBounds_toArray, List.set_cons_zero, List.set_cons_succ]
            refine wpAny_ready (rs := [0]) (by kernel_rfl) (by simp) ?_
            refine AllReady.cons rfl (fun K hK => step_load_known rfl 109 _ rfl ⟨w.heap.size + 1, 0, none⟩ (.agg CE1) (by simp [go_sem, Act.eval]) LA.out (hK _ _ ?_)) AllReady.nil
            try simp only [Act.put, List.setIfInBounds_toArray, List.set_cons_zero, List.set_cons_succ]
            refine wpAny_ready (rs := [2]) (by kernel_rfl) (by simp) ?_
            refine AllReady.cons rfl (fun K hK => step_store_known rfl rfl 109 _ _ rfl ⟨w.heap.size + 1, 0, none⟩ (.agg CE1) (by simp [go_sem, Act.eval]) (by simp [go_sem, Act.eval]) SA.out (hK _ _ ?_)) AllReady.nil
            try simp only [Act.put, List.setIfInBounds_toArray, List.set_cons_zero, List.set_cons_succ]
            refine wpAny_ready (rs := [3]) (by kernel_rfl) (by simp) ?_
            refine AllReady.cons rfl (fun K hK => step_store_known rfl rfl 109 _ _ rfl ⟨w.heap.size + 1 + 1, 0, none⟩ (.agg CO1) (by simp [go_sem, Act.eval]) (by simp [go_sem, Act.eval]) SB.out (hK _ _ ?_)) AllReady.nil
            try simp only [Act.put, List.setIfInBounds_toArray, List.set_cons_zero, List.set_cons_succ]
            refine wpAny_done (by kernel_rfl) ?_ _
            go_wp2
            refine bodyPost_ret (results_cells2 rfl _ (a := ⟨w.heap.size + 1, 0, none⟩) (b := ⟨w.heap.size + 1 + 1, 0, none⟩) rfl rfl RA.out RB.out) rfl ⟨?_, HLOW.out⟩
            rw [HE.out, ← HO.out, HCE.out, HCO.out]
end Go.Proofs.YtccnfklemalmeaaDoor
