/- Joined texts of this proof: NoteW. -/
import Derived.Laws.Tables
import Derived.Laws.CopyOwn
import Derived.DeepKeys
import Derived.Test.YtphabkaiheplpaaGreatDoorRests1
/- A notice as its cells hold it; rows that are loaded and stored at once. -/
set_option linter.unusedVariables false
set_option linter.unusedSimpArgs false
set_option maxRecDepth 100000
namespace Go.Proofs.YtphabkaiheplpaaGreatDoor
open Go.RowKit

theorem setRow_new (w : World) (t : TypeId) (old vs : Array Value) : (w.alloc (.cells old t)).setRow w.heap.size vs = w.alloc (.cells vs t) := by
  unfold World.setRow World.alloc
  congr 1
  apply Array.ext
  · simp
  · intro k h1 h2
    simp only [Array.getElem_modify, Array.getElem_push]
    by_cases h : k < w.heap.size
    · have : ¬ w.heap.size = k := by omega
      simp [h, this]
    · have : w.heap.size = k := by simp at h2; omega
      simp [h, this]
theorem storeVar_new (P : Program) (w : World) (t ty : TypeId) (old vs : Array Value) (hi : (P.info? ty).map (·.size) = some vs.size) (ho : old.size = vs.size) (h1 : vs.all (·.oneCell') = true) :
    (storeVar ty ⟨w.heap.size, 0, none⟩ (.agg vs)).run P (w.alloc (.cells old t)) = .ok () (w.alloc (.cells vs t)) := by
  have hg : (w.alloc (.cells old t)).heap[w.heap.size]? = some (.cells old t (0, 0)) := by
    show (w.heap.push (Obj.cells old t))[w.heap.size]? = _
    exact Array.getElem?_push_size
  rw [run_storeVar_row (w.alloc (.cells old t)) w.heap.size t ty old vs hg hi ho h1, setRow_new]
/-- A part of a box's row, loaded at once. -/
theorem loadVar_part (P : Program) (w : World) (g o : Nat) (ty : TypeId) (vs : List Value) (d : TypeDesc) (hu : P.underlying ty = some d) (hd : (match d with | .struct _ | .array _ _ => true | _ => false) = true) (hi : (P.info? ty).map (·.size) = some vs.length)
    (hc : ∀ j v, vs[j]? = some v → w.cell? ⟨g, o + j, none⟩ = some v) : (loadVar ty ⟨g, o, none⟩).run P w = .ok (.agg vs.toArray) w := by
  have hl : (loadCells ⟨g, o, none⟩ vs.length).run P w = .ok vs.toArray w :=
    run_loadCells_list (P := P) w ⟨g, o, none⟩ vs (fun j v hv => by
      have hadd : (⟨g, o, none⟩ : Addr).add j = ⟨g, o + j, none⟩ := by unfold Addr.add; split <;> simp_all
      rw [hadd]
      exact hc j v hv)
  cases hq : P.info? ty with
  | none => simp [hq] at hi
  | some i =>
    have hs : i.size = vs.length := by simpa [hq] using hi
    have hagg : (isAgg ty).run P w = .ok true w := by
      unfold isAgg
      rw [Sem.run_bind, run_underlying hu w]
      cases d <;> simp_all
    simp [loadVar, Sem.run_bind, hagg, sizeOf, typeInfo, hq, hs, hl]
/-- A load whose answer is known; a store whose answer is known. -/
theorem wpList_load_known {P : Program} {ops : Array Oper} {rest : List Oper} {o : Oper} {a : Act} {w : World} {Q : Exit → Act → World → Prop} (hgd : o.guard = none) (ty : TypeId) (x : Operand) (ho : o.op = .load ty x)
    (ad : Addr) (v : Value) (hx : a.eval x = .pointer (some ad)) (hl : (loadVar ty ad).run P w = .ok v w) (h : wpList P ops Q rest (a.put o.dst v) w) : wpList P ops Q (o :: rest) a w :=
  wpList_plain hgd fun _ hK => by
    unfold Oper.wp execOp
    simp only [ho, hx, Instr.loadAt, Instr.sureAddr, Sem.run_bind, Sem.run_pure, Result.andThen_ok, hl]
    exact hK _ _ h
theorem wpList_store_known {P : Program} {ops : Array Oper} {rest : List Oper} {o : Oper} {a : Act} {w w2 : World} {Q : Exit → Act → World → Prop} (hgd : o.guard = none) (ty : TypeId) (x y : Operand) (ho : o.op = .store ty x y)
    (ad : Addr) (v : Value) (hx : a.eval x = .pointer (some ad)) (hy : a.eval y = v) (hl : (storeVar ty ad v).run P w = .ok () w2) (h : wpList P ops Q rest (a.put o.dst undef) w2) : wpList P ops Q (o :: rest) a w :=
  wpList_plain hgd fun _ hK => by
    unfold Oper.wp execOp
    simp only [ho, hx, hy, Instr.storeAt, Instr.sureAddr, Sem.run_bind, Sem.run_pure, Result.andThen_ok, hl]
    exact hK _ _ h
theorem wpList_store_plain {P : Program} {ops : Array Oper} {rest : List Oper} {o : Oper} {a : Act} {w w2 : World} {Q : Exit → Act → World → Prop} (hgd : o.guard = none) (hd : o.dst = none) (ty : TypeId) (x y : Operand) (ho : o.op = .store ty x y)
    (ad : Addr) (v : Value) (hx : a.eval x = .pointer (some ad)) (hy : a.eval y = v) (hl : (storeVar ty ad v).run P w = .ok () w2) (h : wpList P ops Q rest a w2) : wpList P ops Q (o :: rest) a w :=
  wpList_store_known hgd ty x y ho ad v hx hy hl (by rw [hd]; exact h)
def I64 (a : Int) : Prop := -9223372036854775808 ≤ a ∧ a ≤ 9223372036854775807
/-- A notice as its cells hold it. -/
structure Nt where
  ref : ByteArray
  prev : ByteArray
  cancel : Bool
  receive : Bool
  pay : Bool
  trade : Int
  settle : Int
  code : Nat → Int
  qty : Int
  account : ByteArray
  agent : ByteArray
  other : ByteArray
  amount : Int
  currency : ByteArray
  priority : Int
  la : Option Addr
  ln : Nat
  lc : Nat
def codeV (f : Nat → Int) : Array Value := #[.int .u8 (f 0), .int .u8 (f 1), .int .u8 (f 2), .int .u8 (f 3), .int .u8 (f 4), .int .u8 (f 5), .int .u8 (f 6), .int .u8 (f 7), .int .u8 (f 8), .int .u8 (f 9), .int .u8 (f 10), .int .u8 (f 11)]
/-- What the input's form says of it. -/
structure Nt.wf (x : Nt) : Prop where
  ref : x.ref.size ≤ 140737488351232
  prev : x.prev.size ≤ 140737488351232
  priority : I64 x.priority
  trade : I64 x.trade
  settle : I64 x.settle
  code : ∀ i, 0 ≤ x.code i ∧ x.code i ≤ 255
  qty : I64 x.qty
  account : x.account.size ≤ 140737488351232
  agent : x.agent.size ≤ 140737488351232
  other : x.other.size ≤ 140737488351232
  amount : I64 x.amount
  currency : x.currency.size ≤ 140737488351232
def noteC (x : Nt) : Array Value := #[.string x.ref, .string x.prev, .bool x.cancel, .bool x.receive, .bool x.pay, .int .i64 x.trade, .int .i64 x.settle,
  .int .u8 (x.code 0), .int .u8 (x.code 1), .int .u8 (x.code 2), .int .u8 (x.code 3), .int .u8 (x.code 4), .int .u8 (x.code 5), .int .u8 (x.code 6), .int .u8 (x.code 7), .int .u8 (x.code 8), .int .u8 (x.code 9), .int .u8 (x.code 10), .int .u8 (x.code 11),
  .int .i64 x.qty, .string x.account, .string x.agent, .string x.other, .int .i64 x.amount, .string x.currency, .int .i64 x.priority, .slice x.la x.ln x.lc]
theorem noteC_one (x : Nt) : (noteC x).all (·.oneCell') = true := by simp [noteC, Value.oneCell']
theorem noteC_size (x : Nt) : (noteC x).size = 27 := rfl
theorem note_size : (Tryz.prog.info? 26).map (·.size) = some 27 := by kernel_rfl
theorem note_desc : (match Tryz.prog.underlying 26 with | some (.struct _) => true | _ => false) = true := by kernel_rfl
theorem code_size : (Tryz.prog.info? 23).map (·.size) = some 12 := by kernel_rfl
theorem code_desc : (match Tryz.prog.underlying 23 with | some (.array _ _) => true | _ => false) = true := by kernel_rfl
theorem code_part (x : Nt) : ∀ (j : Nat) (v : Value), (codeV x.code).toList[j]? = some v → (noteC x)[7 + j]? = some v := fun j v h => by
  rw [← Array.getElem?_toList, show (noteC x).toList = (noteC x).toList.take 7 ++ ((codeV x.code).toList ++ (noteC x).toList.drop 19) from rfl, List.getElem?_append_right (by show 7 ≤ 7 + j; omega), show 7 + j - ((noteC x).toList.take 7).length = j by show 7 + j - 7 = j; omega]
  obtain ⟨hj, _⟩ := List.getElem?_eq_some_iff.1 h
  rw [List.getElem?_append_left hj]
  exact h
theorem load_code (x : Nt) (W : World) (g : Nat) (T : TypeId) (hg : W.heap[g]? = some (.cells (noteC x) T (0, 0))) : (loadVar 23 ⟨g, 7, none⟩).run Tryz.prog W = .ok (.agg (codeV x.code)) W := by
  have hd := code_desc
  cases hu : Tryz.prog.underlying 23 with
  | none => rw [hu] at hd; cases hd
  | some d =>
    rw [hu] at hd
    refine loadVar_part Tryz.prog W g 7 _ (codeV x.code).toList d hu (by cases d <;> simp_all) code_size fun j v hv => ?_
    rw [cell_of_row W g (7 + j) _ T _ hg]
    exact code_part x j v hv
theorem heap_at (W : World) (o : Obj) (n : Nat) (hn : n = W.heap.size) : (W.alloc o).heap[n]? = some o := by rw [hn]; exact heap_alloc_new W o
theorem wpList_load_guarded {P : Program} {ops : Array Oper} {rest : List Oper} {o : Oper} {a : Act} {w : World} {Q : Exit → Act → World → Prop} (ty : TypeId) (x : Operand) (ho : o.op = .load ty x)
    (ad : Addr) (v : Value) (hx : a.eval x = .pointer (some ad)) (hl : (loadVar ty ad).run P w = .ok v w) (hw : Region.wanted o (yielded ops a.tmps) = true) (h : wpList P ops Q rest (a.put o.dst v) w) : wpList P ops Q (o :: rest) a w :=
  wpList_step fun _ hK => by
    rw [if_pos hw]
    unfold Oper.wp execOp
    simp only [ho, hx, Instr.loadAt, Instr.sureAddr, Sem.run_bind, Sem.run_pure, Result.andThen_ok, hl]
    exact hK _ _ h
theorem heap_kept {w w1 : World} {o : Obj} (hb : Below (w.alloc o).heap.size (w.alloc o) w1) : w1.heap[w.heap.size]? = some o := by
  rw [hb.block w.heap.size (by simp)]
  exact heap_alloc_new w o
/-- A load of a whole row. -/
theorem load_whole {P : Program} (W : World) (g : Nat) (T ty : TypeId) (fr : Nat × Nat) (vs : Array Value) (d : TypeDesc) (hu : P.underlying ty = some d) (hd : (match d with | .struct _ | .array _ _ => true | _ => false) = true) (hi : (P.info? ty).map (·.size) = some vs.size)
    (hg : W.heap[g]? = some (.cells vs T fr)) : (loadVar ty ⟨g, 0, none⟩).run P W = .ok (.agg vs) W := by
  have := loadVar_part P W g 0 ty vs.toList d hu hd (by simpa using hi) (fun j v hv => by
    rw [cell_of_row W g (0 + j) _ T fr hg, Nat.zero_add, ← Array.getElem?_toList]
    exact hv)
  simpa using this
theorem results_cell_tmp {fn : Func} {P : Program} {i j : Tmp} {t : TypeId} (h : fn.results = #[.cell i t, .tmp j]) (tmps : Array Value) {a : Addr} {w : World} {v1 : Value} (ha : tmps.getD i undef = .pointer (some a))
    (l1 : (loadVar t a).run P w = .ok v1 w) {v2 : Value} (h2 : tmps.getD j undef = v2) : (results fn tmps).run P w = .ok (.tuple #[v1, v2]) w := by
  unfold results
  rw [h]
  simp only [Array.mapM_eq_mapM_toList, List.mapM_cons, List.mapM_nil, ha, h2, asAddr, Sem.run_bind, Sem.run_pure, Sem.run_map, Result.andThen_ok, l1, pure_bind, bind_pure_comp]
  rfl
theorem note_load (x : Nt) (W : World) (g : Nat) (T : TypeId) (hg : W.heap[g]? = some (.cells (noteC x) T (0, 0))) : (loadVar 26 ⟨g, 0, none⟩).run Tryz.prog W = .ok (.agg (noteC x)) W := by
  have hd := note_desc
  cases hu : Tryz.prog.underlying 26 with
  | none => rw [hu] at hd; cases hd
  | some d =>
    rw [hu] at hd
    exact load_whole W g T _ (0, 0) (noteC x) d hu (by cases d <;> simp_all) note_size hg
theorem code_load (cs : Array Value) (hs : cs.size = 12) (W : World) (g : Nat) (T : TypeId) (fr : Nat × Nat) (hg : W.heap[g]? = some (.cells cs T fr)) : (loadVar 23 ⟨g, 0, none⟩).run Tryz.prog W = .ok (.agg cs) W := by
  have hd := code_desc
  cases hu : Tryz.prog.underlying 23 with
  | none => rw [hu] at hd; cases hd
  | some d =>
    rw [hu] at hd
    exact load_whole W g T _ fr cs d hu (by cases d <;> simp_all) (by rw [hs]; exact code_size) hg
/-- A row of twelve cells stored behind a call. -/
theorem code_store (cs old : Array Value) (hs : cs.size = 12) (ho : old.size = 12) (h1 : cs.all (·.oneCell') = true) (W : World) (g : Nat) (T : TypeId) (hg : W.heap[g]? = some (.cells old T (0, 0))) :
    (storeVar 23 ⟨g, 0, none⟩ (.agg cs)).run Tryz.prog W = .ok () (W.setRow g cs) :=
  run_storeVar_row W g T _ old cs hg (by rw [hs]; exact code_size) (by omega) h1
theorem bl_setRow {w W : World} (h : Below w.heap.size w W) {g : Nat} (hg : w.heap.size ≤ g) (cs : Array Value) : Below w.heap.size w (W.setRow g cs) := below_setRow h hg cs
theorem row_free {W : World} {g : Nat} {cs : Array Value} {t : TypeId} (h : W.heap[g]? = some (.cells cs t (0, 0))) (k : Nat) : W.frozen? ⟨g, k, none⟩ = false := by simp [World.frozen?, h]
theorem eql_lits {t : TypeId} {D m : Nat} {xs ys : Array Value} {la lb : List Lit} (hm : m ≤ 9999) (hk : Tryz.prog.keyTypeAt m t = true) (fx : (Value.agg xs).formed Tryz.prog t = true) (fy : (Value.agg ys).formed Tryz.prog t = true)
    (hx : Tryz.prog.keyLits D t xs.toList = some la) (hy : Tryz.prog.keyLits D t ys.toList = some lb) {r : Bool} (hr : r = true ↔ la = lb) (w : World) : (binOp .eql t (.agg xs) (.agg ys)).run Tryz.prog w = .ok (.bool r) w := by
  obtain ⟨q, hq, hiff⟩ := run_equalIn_deep (P := Tryz.prog) (10000 - m) m t hk w D D (.agg xs) (.agg ys) la lb fx fy hx hy
  rw [show 10000 - m + m = 10000 by omega] at hq
  have e : q = r := Bool.eq_iff_iff.2 (hiff.trans hr.symm)
  subst e
  simp only [run_eql_struct, hq, Result.andThen]
theorem neq_lits {t : TypeId} {D m : Nat} {xs ys : Array Value} {la lb : List Lit} (hm : m ≤ 9999) (hk : Tryz.prog.keyTypeAt m t = true) (fx : (Value.agg xs).formed Tryz.prog t = true) (fy : (Value.agg ys).formed Tryz.prog t = true)
    (hx : Tryz.prog.keyLits D t xs.toList = some la) (hy : Tryz.prog.keyLits D t ys.toList = some lb) {r : Bool} (hr : r = true ↔ la = lb) (w : World) : (binOp .neq t (.agg xs) (.agg ys)).run Tryz.prog w = .ok (.bool (!r)) w := by
  obtain ⟨q, hq, hiff⟩ := run_equalIn_deep (P := Tryz.prog) (10000 - m) m t hk w D D (.agg xs) (.agg ys) la lb fx fy hx hy
  rw [show 10000 - m + m = 10000 by omega] at hq
  have e : q = r := Bool.eq_iff_iff.2 (hiff.trans hr.symm)
  subst e
  simp only [run_neq_struct, hq, Result.andThen]
end Go.Proofs.YtphabkaiheplpaaGreatDoor
