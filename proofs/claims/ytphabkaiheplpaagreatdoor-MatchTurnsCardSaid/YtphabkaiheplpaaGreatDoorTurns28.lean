/- Joined texts of this proof: BkH. -/
import Derived.Outline
import Derived.Test.YtphabkaiheplpaaGreatDoorTurns26
import Derived.Test.YtphabkaiheplpaaGreatDoorTurns27
/- Words for (*match.Book).Add: a new entry, a new name, a new face. -/
set_option linter.unusedVariables false
set_option linter.unusedSimpArgs false
set_option maxRecDepth 100000
namespace Go.Proofs.YtphabkaiheplpaaGreatDoor
open Go.RowKit Go.Shelf Go.Maps
open Go.ChangeMaps (setBlock)

theorem faceE_own (p : Int) (x : Nt) (la : Option Addr) (lc : Nat) (zs : List ByteArray) : faceE p { x with la := la, lc := lc } zs = faceE p x zs := by kernel_rfl
theorem faceO_own (p : Int) (x : Nt) (la : Option Addr) (lc : Nat) (zs : List ByteArray) : faceO p { x with la := la, lc := lc } zs = faceO p x zs := by kernel_rfl
theorem build_entry (p : Int) (x : Nt) (lx : List Lk) (w : World) : (Instr.build 93 #[(0, .agg (sideC p x)), (1, .int .i64 (-1))]).run Tryz.prog w = .ok (.agg (entC ⟨p, x, lx, -1, false, false⟩).toArray) w := by kernel_rfl
theorem slice_entry (p : Int) (x : Nt) (lx : List Lk) (w : World) : (Instr.buildSlice 79 1 #[(0, .agg (entC ⟨p, x, lx, -1, false, false⟩).toArray)]).run Tryz.prog w = .ok (.slice (some ⟨w.heap.size, 0, none⟩) 1 1) (w.alloc (.cells (entC ⟨p, x, lx, -1, false, false⟩).toArray 93)) := by kernel_rfl
theorem infoE : (Tryz.prog.info? 93).map (fun i => (i.zero, i.size, i.bytes)) = some (some (.agg (entC ⟨0, nt0, [], 0, false, false⟩).toArray), 31, 208) := by kernel_rfl
section
variable {P : Program} {Q : Exit → Act → World → Prop}
theorem wp_buildSlice_known {o : Oper} {a : Act} {w w2 : World} {K : Act → World → Prop} (t : TypeId) (n : Nat) (qs : Array (Nat × Operand)) (ho : o.op = .buildSlice t n qs) (vs : Array (Nat × Value)) (v : Value) (hv : (qs.toList.map fun p => (p.1, a.eval p.2)) = vs.toList) (hl : (Instr.buildSlice t n vs).run P w = .ok v w2) (hK : K (a.put o.dst v) w2) : Oper.wp P o a w K Q := by
  have hv : (qs.map fun (i, x) => (i, a.eval x)) = vs := by
    apply Array.toList_inj.1
    rw [Array.toList_map]
    exact hv
  unfold Oper.wp execOp
  simp only [ho, hv, Sem.run_bind, Sem.run_pure, Result.andThen_ok, hl]
  exact hK
theorem wp_alloc_known {o : Oper} {a : Act} {w : World} {K : Act → World → Prop} (t : TypeId) (ho : o.op = .alloc t) (Z : Array Value) (hl : (Instr.alloc t true (.tuple #[])).run P w = .ok (.pointer (some ⟨w.heap.size, 0, none⟩)) (w.alloc (.cells Z t)))
    (hK : ∀ (W : World) (g : Nat), Below w.heap.size w W → W.heap[g]? = some (.cells Z t (0, 0)) → w.heap.size ≤ g → K (a.put o.dst (.pointer (some ⟨g, 0, none⟩))) W) : Oper.wp P o a w K Q := by
  unfold Oper.wp execOp
  simp only [ho, Sem.run_bind, Sem.run_pure, Result.andThen_ok, hl]
  exact hK _ _ (bl_alloc (bl_refl w) _) (heap_alloc_new w _) (Nat.le_refl _)
end
theorem alloc_face (w : World) : (Instr.alloc 68 true (.tuple #[])).run Tryz.prog w = .ok (.pointer (some ⟨w.heap.size, 0, none⟩)) (w.alloc (.cells (faceC face0) 68)) := by kernel_rfl
/-- A new name. -/
theorem name_put {zs : List ByteArray} {es : List Ent} {ps : List Pr} (h : StOk zs es ps) {W : World} {m : Nat} (hm : MapIs W m (nmOf es)) (p : Int) (r : ByteArray) (hp : I64 p) (hr : r.size ≤ 140737488351232) (htw : twiceB es p r = false) (e : Ent) (he : e.p = p) (her : e.x.ref = r) :
    ∃ o, (Instr.mapUpdate 77 (.map (some m)) (nameV p r) (natV es.length)).run Tryz.prog W = .ok () (setBlock W m o) ∧ MapIs (setBlock W m o) m (nmOf (es ++ [e])) := by
  have hz : nmOf (es ++ [e]) = nmOf es ++ [(nameV p r, natV es.length)] := by
    unfold nmOf
    rw [List.zipIdx_append, List.map_append]
    simp [he, her]
  obtain ⟨o, h1, h2⟩ := store_leaves (val := natV es.length) hm name_law Tryz.underlying77 (nmOf_keys h) (name_keyOf p r hp hr)
  refine ⟨o, h1, ?_⟩
  rcases h2 with ⟨_, h2⟩ | ⟨j, v, hj, _⟩
  · rw [hz]
    exact h2
  · exfalso
    obtain ⟨i, hi, e1⟩ := mem_nmOf (List.mem_of_getElem? hj)
    injection e1 with e1 _
    obtain ⟨e2, e3⟩ := nameV_inj.1 e1
    unfold twiceB at htw
    rw [List.any_eq_false] at htw
    exact htw _ (getD_mem hi) (by simp [e2, e3])
end Go.Proofs.YtphabkaiheplpaaGreatDoor
