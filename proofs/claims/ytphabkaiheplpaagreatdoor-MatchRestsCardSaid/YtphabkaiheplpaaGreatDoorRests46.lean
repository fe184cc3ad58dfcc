/- Joined texts of this proof: RsT. -/
import Derived.Outline
import Derived.Test.YtphabkaiheplpaaGreatDoorRests45
/- custodykit.Pick; a script's calls in memory. -/
set_option linter.unusedVariables false
set_option linter.unusedSimpArgs false
set_option maxRecDepth 100000
namespace Go.Proofs.YtphabkaiheplpaaGreatDoor
open Go.RowKit Go.Shelf Go.Maps

theorem infoSd : (Tryz.prog.info? 28).map (fun i => (i.zero, i.size, i.bytes)) = some (some (.agg (sideC 0 nt0)), 28, 192) := by kernel_rfl
theorem op_size : (Tryz.prog.info? 46).map (·.size) = some 32 := by kernel_rfl
theorem op_desc : (match Tryz.prog.underlying 46 with | some (.struct _) => true | _ => false) = true := by kernel_rfl
/-- A call of a script. -/
structure Opr where
  on : Int
  kind : Int
  p : Int
  x : Nt
  lx : List Lk
  n : Int
  ref : ByteArray
def opr0 : Opr := ⟨0, 0, 0, nt0, [], 0, ⟨#[]⟩⟩
def opC (o : Opr) : List Value := [.int .i64 o.on, .int .i64 o.kind] ++ ((sideC o.p o.x).toList ++ [.int .i64 o.n, .string o.ref])
theorem opC_length (o : Opr) : (opC o).length = 32 := rfl
theorem opC_one (o : Opr) : (opC o).toArray.all (·.oneCell') = true := by
  rw [Array.all_eq_true_iff_forall_mem]
  intro u hu
  simp only [opC, List.mem_append, List.mem_toArray] at hu
  rcases hu with hu | hu | hu
  · simp at hu
    rcases hu with rfl | rfl <;> rfl
  · have := sideC_one o.p o.x
    rw [Array.all_eq_true_iff_forall_mem] at this
    exact this u (by simpa using hu)
  · simp at hu
    rcases hu with rfl | rfl <;> rfl
structure OprOk (w : World) (o : Opr) : Prop where
  on : I64 o.on
  kind : I64 o.kind
  p : I64 o.p
  x : o.x.wf
  rd : RdL w o.x.la o.x.ln o.lx
  ok : OkL o.lx
  ln : o.x.ln * 24 ≤ 140737488351232
  n : I64 o.n
  ref : o.ref.size ≤ 140737488351232
theorem OprOk.below {w W : World} {o : Opr} (h : OprOk w o) (hb : Below w.heap.size w W) : OprOk W o := ⟨h.on, h.kind, h.p, h.x, h.rd.below hb, h.ok, h.ln, h.n, h.ref⟩
def OpsOk (w : World) (A : Option Addr) (n : Nat) (l : List Opr) : Prop := l.length = n ∧ n * 232 ≤ 140737488351232 ∧ ∀ i, i < n → OprOk w (l.getD i opr0) ∧ ∃ ad, A = some ad ∧ ∀ j v, (opC (l.getD i opr0))[j]? = some v → w.cell? (ad.add (i * 32 + j)) = some v
theorem loadVar_atA (P : Program) (w : World) (ad : Addr) (ty : TypeId) (vs : List Value) (d : TypeDesc) (hu : P.underlying ty = some d) (hd : (match d with | .struct _ | .array _ _ => true | _ => false) = true) (hi : (P.info? ty).map (·.size) = some vs.length)
    (hc : ∀ j v, vs[j]? = some v → w.cell? (ad.add j) = some v) : (loadVar ty ad).run P w = .ok (.agg vs.toArray) w := by
  have hl : (loadCells ad vs.length).run P w = .ok vs.toArray w := run_loadCells_list (P := P) w ad vs hc
  cases hq : P.info? ty with
  | none => simp [hq] at hi
  | some i =>
    have hs : i.size = vs.length := by simpa [hq] using hi
    have hagg : (isAgg ty).run P w = .ok true w := by
      unfold isAgg
      rw [Sem.run_bind, run_underlying hu w]
      cases d <;> simp_all
    simp [loadVar, Sem.run_bind, hagg, sizeOf, typeInfo, hq, hs, hl]
theorem load_op {w : World} {A : Option Addr} {n : Nat} {l : List Opr} (h : OpsOk w A n l) {i : Nat} (hi : i < n) : ∃ ad, A = some ad ∧ ∀ W, Below w.heap.size w W → (loadVar 46 (ad.add (i * 32))).run Tryz.prog W = .ok (.agg (opC (l.getD i opr0)).toArray) W := by
  obtain ⟨_, ad, hA, hc⟩ := h.2.2 i hi
  refine ⟨ad, hA, fun W hb => ?_⟩
  have hdesc := op_desc
  cases hu : Tryz.prog.underlying 46 with
  | none => rw [hu] at hdesc; cases hdesc
  | some dd =>
    rw [hu] at hdesc
    exact loadVar_atA Tryz.prog W (ad.add (i * 32)) 46 (opC (l.getD i opr0)) dd hu (by cases dd <;> simp_all) (by rw [op_size, opC_length]) (fun j v hv => by
      rw [Go.Deep.add_add]
      exact bl_cell hb (hc j v hv))
theorem store_op (o : Opr) (Z : Array Value) (hz : Z.size = 32) (W : World) (g : Nat) (T : TypeId) (hg : W.heap[g]? = some (.cells Z T (0, 0))) : (storeVar 46 ⟨g, 0, none⟩ (.agg (opC o).toArray)).run Tryz.prog W = .ok () (W.setRow g (opC o).toArray) :=
  run_storeVar_row W g T _ Z (opC o).toArray hg (by rw [op_size]; rfl) (by rw [hz]; rfl) (opC_one o)
/-- The side of a call in its box. -/
theorem load_opside (o : Opr) (W : World) (g : Nat) (T : TypeId) (hg : W.heap[g]? = some (.cells (opC o).toArray T (0, 0))) : (loadVar 28 ⟨g, 2, none⟩).run Tryz.prog W = .ok (.agg (sideC o.p o.x)) W := by
  have hdesc := side_desc
  cases hu : Tryz.prog.underlying 28 with
  | none => rw [hu] at hdesc; cases hdesc
  | some dd =>
    rw [hu] at hdesc
    have hp := loadVar_part Tryz.prog W g 2 28 (sideC o.p o.x).toList dd hu (by cases dd <;> simp_all) (by rw [side_size]; rfl) (fun j v hv => by
      rw [cell_of_row W g (2 + j) _ T _ hg, List.getElem?_toArray]
      unfold opC
      rw [List.getElem?_append_right (by simp), List.getElem?_append_left (by have := (List.getElem?_eq_some_iff.1 hv).1; simp; simpa using this)]
      simpa using hv)
    simpa using hp
def pickP (k : Int) : Int := if k.tmod 6 < 0 then k.tmod 6 + 6 else k.tmod 6
theorem pick_any (k : Int) (hk : I64 k) (w : World) : Calls Tryz.prog 12 #[.int .i64 k, .int .i64 6] w fun e w' => e = .returned (.int .i64 (pickP k)) ∧ w' = w := by
  unfold I64 at hk
  obtain ⟨r, hr⟩ : ∃ r, r = k.tmod 6 := ⟨_, rfl⟩
  have hb : -6 < r ∧ r < 6 := by
    rw [hr]
    have h1 := Int.tmod_lt_of_pos k (b := 6) (by decide)
    have h2 := Int.lt_tmod_of_pos k (b := 6) (by decide)
    omega
  have hw : IntKind.i64.wrap r = r := by rw [IntKind.wrap_i64]; omega
  have hp : pickP k = if r < 0 then r + 6 else r := by rw [hr]; rfl
  rw [hp]
  clear hp
  by_cases hn : r < 0
  · have hw2 : IntKind.i64.wrap (r + 6) = r + 6 := by rw [IntKind.wrap_i64]; omega
    rw [if_pos hn]
    go_enter Tryz.func12, Tryz.ntmps12
    go_upto_region 4 with fail
    rw [← hr]
    clear hr hk
    go_wp2
    go_ret
    exact ⟨rfl, rfl⟩
  · rw [if_neg hn]
    go_enter Tryz.func12, Tryz.ntmps12
    go_upto_region 4 with fail
    rw [← hr]
    clear hr hk
    go_wp2
    go_ret
    exact ⟨rfl, rfl⟩
end Go.Proofs.YtphabkaiheplpaaGreatDoor
