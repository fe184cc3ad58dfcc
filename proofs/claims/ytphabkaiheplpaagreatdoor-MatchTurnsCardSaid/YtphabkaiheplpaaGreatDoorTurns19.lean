/- Joined texts of this proof: BkK. -/
import Derived.Test.YtphabkaiheplpaaGreatDoorTurns18
/- The keys of a book's maps. -/
set_option linter.unusedVariables false
set_option linter.unusedSimpArgs false
set_option maxRecDepth 100000
namespace Go.Proofs.YtphabkaiheplpaaGreatDoor
open Go.RowKit Go.Shelf Go.Maps

theorem face_litsD (D : Nat) (f : Fc) (h : f.wf) : Tryz.prog.keyLits (D + 5) 68 (faceC f).toList = some (faceL f) := by
  have u0 := Tryz.underlying68
  have u1 := Tryz.underlying23
  have u2 := Tryz.underlying5
  have u3 := Tryz.underlying66
  have u4 := Tryz.underlying9
  have u5 := Tryz.underlying3
  have u6 := Tryz.underlying2
  have u7 := Tryz.underlying4
  have c0 : Tryz.prog.cellsOf 68 = 29 := by kernel_rfl
  have c1 : Tryz.prog.cellsOf 23 = 12 := by kernel_rfl
  have c2 : Tryz.prog.cellsOf 5 = 1 := by kernel_rfl
  have c3 : Tryz.prog.cellsOf 66 = 4 := by kernel_rfl
  have c4 : Tryz.prog.cellsOf 9 = 1 := by kernel_rfl
  have c5 : Tryz.prog.cellsOf 3 = 1 := by kernel_rfl
  have c6 : Tryz.prog.cellsOf 2 = 1 := by kernel_rfl
  have c7 : Tryz.prog.cellsOf 4 = 1 := by kernel_rfl
  have w1 := i64_lit h.trade
  have w2 := i64_lit h.settle
  have w3 := i64_lit h.qty
  have w4 := fun i => u8_lit (h.code i)
  have l1 := h.cur
  have l2 := h.from_
  have l3 := h.to_
  have l4 := h.s
  have l5 := h.b
  simp [faceC, faceL, Program.keyLits, u0, u1, u2, u3, u4, u5, u6, u7, c0, c1, c2, c3, c4, c5, c6, c7, w1, w2, w3, w4, l1, l2, l3, l4, l5, List.range, List.range.loop]
theorem name_litsD (D : Nat) (k : Int) (s : ByteArray) (hk : I64 k) (hs : s.size ≤ 140737488351232) : Tryz.prog.keyLits (D + 3) 90 [.int .i64 k, .string s] = some [.int .i64 k, .string s.data.toList] := by
  have u1 := Tryz.underlying90
  have u2 := Tryz.underlying9
  have u3 := Tryz.underlying3
  have c1 : Tryz.prog.cellsOf 90 = 2 := by kernel_rfl
  have c2 : Tryz.prog.cellsOf 9 = 1 := by kernel_rfl
  have c3 : Tryz.prog.cellsOf 3 = 1 := by kernel_rfl
  have hs2 : s.size ≤ maxLen := by unfold maxLen; omega
  have wf : (Lit.int .i64 k).wf = true := by
    unfold I64 at hk
    have h1 : IntKind.i64.min = -9223372036854775808 := by decide
    have h2 : IntKind.i64.max = 9223372036854775807 := by decide
    simp only [Lit.wf, h1, h2, hk.1, hk.2, decide_true, Bool.and_self]
  simp [Program.keyLits, u1, u2, u3, c1, c2, c3, hs2, wf]
theorem laidOutP : laidOutB Tryz.prog = true := by kernel_rfl
theorem typesN : Tryz.prog.types.size = 296 := by kernel_rfl
theorem face_law : Keyed Tryz.prog 68 := Keyed.of_law (deep_law_laid laidOutP (m := 5) (by omega) (by rw [typesN]; decide) (by kernel_rfl) (by kernel_rfl))
theorem name_law : Keyed Tryz.prog 90 := Keyed.of_law (deep_law_laid laidOutP (m := 3) (by omega) (by rw [typesN]; decide) (by kernel_rfl) (by kernel_rfl))
theorem face_shape : (match Tryz.prog.underlying 68 with | some (.array _ _) | some (.struct _) => true | _ => false) = true := by kernel_rfl
theorem name_shape : (match Tryz.prog.underlying 90 with | some (.array _ _) | some (.struct _) => true | _ => false) = true := by kernel_rfl
theorem keyOf_wide {P : Program} {k : TypeId} {v : Value} {l : List Lit} (hs : (match P.underlying k with | some (.array _ _) | some (.struct _) => true | _ => false) = true) (hk : P.keyType k = true) (hf : v.formed P k = true) (hl : P.keyLits (P.types.size + 1) k v.cells.toList = some l) : keyOf P k v = some (.string (keyBytes l)) := by
  cases hu : P.underlying k with
  | none => rw [hu] at hs; cases hs
  | some d =>
    rw [hu] at hs
    cases d <;> first | (exfalso; revert hs; simp; done) | simp [keyOf, hu, hk, hf, hl]
theorem face_keyOf (f : Fc) (h : f.wf) : keyOf Tryz.prog 68 (keyF f) = some (.string (keyBytes (faceL f))) :=
  keyOf_wide face_shape (by kernel_rfl) (face_formed f) (by
    show Tryz.prog.keyLits (Tryz.prog.types.size + 1) 68 (faceC f).toList = _
    rw [typesN, show (296 : Nat) + 1 = (296 + 1 - 5) + 5 from rfl]
    exact face_litsD _ f h)
theorem name_keyOf (p : Int) (s : ByteArray) (hp : I64 p) (hs : s.size ≤ 140737488351232) : keyOf Tryz.prog 90 (nameV p s) = some (.string (keyBytes [.int .i64 p, .string s.data.toList])) :=
  keyOf_wide name_shape (by kernel_rfl) (by kernel_rfl) (by
    show Tryz.prog.keyLits (Tryz.prog.types.size + 1) 90 [.int .i64 p, .string s] = _
    rw [typesN, show (296 : Nat) + 1 = (296 + 1 - 3) + 3 from rfl]
    exact name_litsD _ p s hp hs)
/-- A face's key tells its letters. -/
theorem keyF_inj {f g : Fc} (hf : f.wf) (hg : g.wf) : keyF f = keyF g ↔ sameFace f g = true := by
  rw [sameL_iff]
  constructor
  · intro h
    have e : (faceC f).toList = (faceC g).toList := by
      unfold keyF at h
      injection h with h
      rw [h]
    have h1 := face_lits f hf
    rw [e, face_lits g hg] at h1
    exact (Option.some.inj h1).symm
  · intro h
    have e : ∀ f : Fc, (faceC f).toList = (faceL f).map Lit.toCell := fun f => by
      simp [faceC, faceL, Lit.toCell]
    have e2 : (faceC f).toList = (faceC g).toList := by rw [e f, e g, h]
    unfold keyF
    rw [Array.toList_inj.1 e2]
theorem nameV_inj {p q : Int} {r s : ByteArray} : nameV p r = nameV q s ↔ p = q ∧ r = s := by
  unfold nameV
  simp
theorem mem_nmOf {es : List Ent} {p : Value × Value} (h : p ∈ nmOf es) : ∃ i, i < es.length ∧ p = (nameV (es.getD i ent0).p (es.getD i ent0).x.ref, natV i) := by
  unfold nmOf at h
  obtain ⟨q, hq, rfl⟩ := List.mem_map.1 h
  obtain ⟨h1, h2⟩ := List.mem_zipIdx' hq
  refine ⟨q.2, h1, ?_⟩
  rw [List.getD_eq_getElem?_getD, List.getElem?_eq_getElem h1, Option.getD_some, ← h2]
theorem nmOf_at {es : List Ent} {i : Nat} (h : i < es.length) : (nmOf es)[i]? = some (nameV (es.getD i ent0).p (es.getD i ent0).x.ref, natV i) := by
  unfold nmOf
  rw [List.getElem?_map, List.getElem?_zipIdx, List.getElem?_eq_getElem h, List.getD_eq_getElem?_getD, List.getElem?_eq_getElem h]
  simp
theorem nmOf_length (es : List Ent) : (nmOf es).length = es.length := by simp [nmOf]
theorem nmOf_keys {zs : List ByteArray} {es : List Ent} {ps : List Pr} (h : StOk zs es ps) : KeysOk Tryz.prog 90 (nmOf es) := fun p hp => by
  obtain ⟨i, hi, rfl⟩ := mem_nmOf hp
  have hm : es.getD i ent0 ∈ es := by rw [List.getD_eq_getElem?_getD, List.getElem?_eq_getElem hi]; exact List.getElem_mem hi
  have he := h.ent _ hm
  exact ⟨_, name_keyOf _ _ he.2.1 he.1.ref⟩
theorem ws_keys {zs : List ByteArray} {es : List Ent} {ws : List (Fc × Value × List Nat)} (h : WsOk zs es ws) : KeysOk Tryz.prog 68 (ws.map kwF) := fun p hp => by
  obtain ⟨q, hq, rfl⟩ := List.mem_map.1 hp
  exact ⟨_, face_keyOf q.1 (h.fwf q hq)⟩
/-- Whether a name stands in the book. -/
def twiceB (es : List Ent) (p : Int) (r : ByteArray) : Bool := es.any fun e => decide (e.p = p) && decide (e.x.ref = r)
theorem name_tells {zs : List ByteArray} {es : List Ent} {ps : List Pr} (h : StOk zs es ps) {W : World} {m : Nat} (hm : MapIs W m (nmOf es)) (p : Int) (r : ByteArray) (hp : I64 p) (hr : r.size ≤ 140737488351232) :
    (twiceB es p r = false ∧ (∀ q ∈ nmOf es, q.1 ≠ nameV p r) ∧ (Instr.lookup 77 (.map (some m)) (nameV p r) true).run Tryz.prog W = .ok (.tuple #[.int .i64 0, .bool false]) W) ∨
    (twiceB es p r = true ∧ ∃ i, i < es.length ∧ (es.getD i ent0).p = p ∧ (es.getD i ent0).x.ref = r ∧ (Instr.lookup 77 (.map (some m)) (nameV p r) true).run Tryz.prog W = .ok (.tuple #[natV i, .bool true]) W) := by
  rcases lookup_tells (z := .int .i64 0) hm name_law Tryz.underlying77 (by kernel_rfl) (nmOf_keys h) (name_keyOf p r hp hr) true with ⟨h1, h2⟩ | ⟨j, v, h1, h2⟩
  · refine .inl ⟨?_, h1, h2⟩
    unfold twiceB
    rw [List.any_eq_false]
    intro e he
    simp only [Bool.and_eq_true, decide_eq_true_eq, not_and]
    intro e1 e2
    obtain ⟨i, hi, e3⟩ := List.getElem_of_mem he
    refine h1 _ (List.mem_of_getElem? (nmOf_at (i := i) hi)) ?_
    rw [List.getD_eq_getElem?_getD, List.getElem?_eq_getElem hi, Option.getD_some, e3, e1, e2]
  · right
    have hj : j < es.length := by
      have := (List.getElem?_eq_some_iff.1 h1).1
      rwa [nmOf_length] at this
    rw [nmOf_at hj] at h1
    have h3 := Option.some.inj h1
    have h4 := Prod.mk.inj h3
    obtain ⟨e1, e2⟩ := nameV_inj.1 h4.1
    refine ⟨?_, j, hj, e1, e2, by rw [h4.2]; exact h2⟩
    unfold twiceB
    rw [List.any_eq_true]
    refine ⟨es.getD j ent0, ?_, by rw [e1, e2]; simp⟩
    rw [List.getD_eq_getElem?_getD, List.getElem?_eq_getElem hj]
    exact List.getElem_mem hj
end Go.Proofs.YtphabkaiheplpaaGreatDoor
