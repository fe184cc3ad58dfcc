/- Joined texts of this proof: RsZ. -/
import Derived.Test.YtphabkaiheplpaaGreatDoorRests47
/- Add, Cancel, lost, rests over what MatchRests's loop keeps. -/
set_option linter.unusedVariables false
set_option linter.unusedSimpArgs false
set_option maxRecDepth 100000
namespace Go.Proofs.YtphabkaiheplpaaGreatDoor
open Go.RowKit Go.Shelf Go.Maps

theorem bk_lt {F : Nat → Prop} {W : World} {b : Nat} {zs : List ByteArray} {tol : Int} {es : List Ent} {ps : List Pr} (h : BkI F W b zs tol es ps) : ∀ i, F i → i < W.heap.size := by
  obtain ⟨_, _, _, _, _, _, _, _, _, _, h⟩ := h
  exact h
/-- What the law's arguments say. -/
structure ScA (w : World) (A : Option Addr) (n : Nat) (zs : List ByteArray) (tol : Int) : Prop where
  hr : RdT w A n zs
  sh : Short zs
  hn : n * 16 ≤ 140737488351232
  zl : zs.length ≤ 140737488351232
  tl : I64 tol
  pw : PowT w
section
variable {w wr : World} {F : Nat → Prop} {A : Option Addr} {n c : Nat} {b : Nat} {zs : List ByteArray} {tol : Int} {es : List Ent} {ps : List Pr} {v8 v9 : Value} {sl : List (Int × Nt)} {k : Nat}
theorem sc_add (h : ScI w wr F b zs tol es ps v8 v9 sl k) (a : ScA w A n zs tol) {o : Opr} (ho : OprOk w o) (hk : k + 1 ≤ 606700000000) :
    Calls Tryz.prog 10 #[.pointer (some ⟨b, 0, none⟩), .agg (sideC o.p o.x)] wr fun e w' => ∃ (E : GErr) (N P : Int), e = .returned (.tuple #[.int .i64 N, .int .i64 P, E.val]) ∧
      ((E.isNil = false ∧ ScI w w' F b zs tol es ps v8 v9 sl k) ∨ (E = .nil ∧ N = es.length ∧ ∃ la lc, BkI (newF F wr w') w' b zs tol (addRes zs tol es ps (entN o.p o.x o.lx la lc)).2.1 (addRes zs tol es ps (entN o.p o.x o.lx la lc)).2.2 ∧ Fr F wr w')) := by
  have hle := h.le
  have hlp := h.lp
  refine (add_any h.bk ho.x ho.p (ho.rd.below h.low) ho.ok ho.ln a.sh a.tl (a.pw.below h.low) h.pf (by omega) a.zl (by omega)).mono ?_
  rintro e w' (⟨h0, ⟨E, rfl, _, hE, _⟩, _, hb⟩ | ⟨h0, la, lc, rfl, hb, hfr⟩)
  · exact ⟨E, 0, 0, rfl, .inl ⟨GErr.isNil_false hE, h.grow hb⟩⟩
  · exact ⟨.nil, _, _, rfl, .inr ⟨rfl, rfl, la, lc, hb, hfr⟩⟩
theorem sc_cancel (h : ScI w wr F b zs tol es ps v8 v9 sl k) (a : ScA w A n zs tol) {p : Int} {r : ByteArray} (hp : I64 p) (hr : r.size ≤ 140737488351232) (hk : k ≤ 606700000000) :
    Calls Tryz.prog 13 #[.pointer (some ⟨b, 0, none⟩), .int .i64 p, .string r] wr fun e w' => ∃ (E : GErr) (d : Bool), e = .returned (.tuple #[.bool d, E.val]) ∧
      ((E.isNil = false ∧ ScI w w' F b zs tol es ps v8 v9 sl k) ∨ (E = .nil ∧ d = false ∧ ∃ F' es' ps', ScI w w' F' b zs tol es' ps' v8 v9 sl k) ∨
       (E = .nil ∧ d = true ∧ ∃ i, i < es.length ∧ BkI (newF F wr w') w' b zs tol (cancelAt es ps i).2.2.1 (cancelAt es ps i).2.2.2 ∧ Fr F wr w')) := by
  have hle := h.le
  refine (cancel_any h.bk h.ri.pin hp hr a.sh (a.pw.below h.low) h.pf a.zl (by omega)).mono ?_
  rintro e w' (⟨_, ⟨E, rfl, _, hE, _⟩, _, hb⟩ | ⟨_, i, hi, _, _, ⟨_, ⟨E, rfl, _, hE, _⟩, _, hb⟩ | ⟨h0, rfl, hb, hf⟩⟩)
  · exact ⟨E, _, rfl, .inl ⟨GErr.isNil_false hE, h.grow hb⟩⟩
  · exact ⟨E, _, rfl, .inl ⟨GErr.isNil_false hE, h.grow hb⟩⟩
  · cases hd : (cancelAt es ps i).2.1 with
    | true => exact ⟨.nil, true, rfl, .inr (.inr ⟨rfl, rfl, i, hi, hb, hf⟩)⟩
    | false =>
      refine ⟨.nil, false, rfl, .inr (.inl ⟨rfl, rfl, _, _, _, h.canceled hi hb hf a.pw (StOk.of_bk hb) (bl_refl w') ?_ (h.new (fun g hg => row_lt h.r9 hg) h.n9)⟩)⟩
      have e1 : flags es.length (goneF (cancelAt es ps i).2.2.1) = flags es.length (goneF es) := flags_eq (fun j _ => cancel_not hi hd j)
      rw [e1]
      exact ow_fr h.r9 hf h.n9
theorem gone_lost (h : ScI w wr F b zs tol es ps v8 v9 sl k) {i : Nat} (hi : i < es.length) {W : World} {F' : Nat → Prop} (hb : BkI F' W b zs tol (cancelAt es ps i).2.2.1 (cancelAt es ps i).2.2.2) : flags es.length (fun j => goneF es j || !inL (openL (cancelAt es ps i).2.2.1) (stand (cancelAt es ps i).2.2.2) j) = flags es.length (goneF (cancelAt es ps i).2.2.1) := by
  have hl := (cancel_at hi (h.bound hi).1 (h.bound hi).2 0).2.2
  apply flags_eq
  intro j hj
  rw [rest_in (h.ri.cancel h.st hi) (StOk.of_bk hb) (by rw [hl.1]; exact hj), Bool.not_not]
  unfold goneF
  cases hg : (es.getD j ent0).gone with
  | false => rw [Bool.false_or]
  | true => rw [Bool.true_or, gone_mono (tol := tol) h.st hi j hg]
theorem sc_lost (h : ScI w wr F b zs tol es ps v8 v9 sl k) (a : ScA w A n zs tol) (hk : k ≤ 606700000000) {W : World} {i : Nat} (hi : i < es.length) (hb : BkI (newF F wr W) W b zs tol (cancelAt es ps i).2.2.1 (cancelAt es ps i).2.2.2) (hf : Fr F wr W) :
    Calls Tryz.prog 14 #[.pointer (some ⟨b, 0, none⟩), v8, v9] W fun e w' => ∃ v9', e = .returned v9' ∧ ScI w w' (newF F wr W) b zs tol (cancelAt es ps i).2.2.1 (cancelAt es ps i).2.2.2 v8 v9' sl k := by
  have hl := (cancel_at hi (h.bound hi).1 (h.bound hi).2 0).2.2
  have hle := h.le
  have hlp := h.lp
  obtain ⟨S8, c8, e8⟩ := ow_slice h.r8
  obtain ⟨S9, c9, e9⟩ := ow_slice h.r9
  have hg := own_low (ow_fr h.r9 hf h.n9) (Nat.zero_le _)
  rw [e9] at hg
  rw [e8, e9, h.len]
  refine (lost_any (S := S8) (cs := c8) hb (StOk.of_bk hb) hl.1 (by rw [hl.2]; omega) (by omega) hg).mono ?_
  rintro e w' ⟨v, rfl, hown, hbl⟩
  rw [gone_lost h hi hb] at hown
  refine ⟨v, rfl, ?_⟩
  rw [← h.len, ← e8]
  exact h.canceled hi hb hf a.pw (StOk.of_bk hb) hbl (own_low hown (h.frLow hf).size) (fun g hg hF => by
    have h1 := ow_base hown g hg
    have h2 := bk_lt hb g hF
    omega)
theorem sc_rests (h : ScI w wr F b zs tol es ps v8 v9 sl k) (a : ScA w A n zs tol) (hk : k ≤ 606700000000) :
    Calls Tryz.prog 15 #[.pointer (some ⟨b, 0, none⟩), .slice A n c, .int .i64 tol, v8, v9] wr fun e w' => e = .returned (.bool true) ∧ ScI w w' F b zs tol es ps v8 v9 sl k := by
  have hle := h.le
  have hlp := h.lp
  obtain ⟨S8, c8, e8⟩ := ow_slice h.r8
  obtain ⟨S9, c9, e9⟩ := ow_slice h.r9
  have h8 := own_low h.r8 (Nat.zero_le _)
  have h9 := own_low h.r9 (Nat.zero_le _)
  rw [e8] at h8
  rw [e9] at h9
  rw [h.len] at h8
  have hc := rests_any (cA := c) h.bk h.st h.ri rfl (by omega) (by omega) h8 h.len h9 h.tw h.so (a.hr.below h.low) a.sh (by have := a.hn; omega) a.tl (a.pw.below h.low)
  have e8' : v8 = .slice S8 es.length c8 := by rw [e8, h.len]
  rw [← e8', ← e9] at hc
  refine hc.mono ?_
  rintro e w' ⟨rfl, hbl⟩
  exact ⟨rfl, h.grow hbl⟩
end
theorem slice_side (p : Int) (x : Nt) (w : World) : (Instr.buildSlice 43 1 #[(0, .agg (sideC p x))]).run Tryz.prog w = .ok (.slice (some ⟨w.heap.size, 0, none⟩) 1 1) (w.alloc (.cells (sideC p x) 28)) := by kernel_rfl
theorem wpList_buildSlice_known {P : Program} {ops : Array Oper} {rest : List Oper} {o : Oper} {a : Act} {w w2 : World} {Q : Exit → Act → World → Prop} (hgd : o.guard = none) (t : TypeId) (n : Nat) (qs : Array (Nat × Operand)) (ho : o.op = .buildSlice t n qs) (vs : Array (Nat × Value)) (v : Value) (hv : (qs.toList.map fun p => (p.1, a.eval p.2)) = vs.toList) (hl : (Instr.buildSlice t n vs).run P w = .ok v w2) (h : wpList P ops Q rest (a.put o.dst v) w2) : wpList P ops Q (o :: rest) a w :=
  wpList_plain hgd fun K hK => by
    have hv : (qs.map fun (i, x) => (i, a.eval x)) = vs := by
      apply Array.toList_inj.1
      rw [Array.toList_map]
      exact hv
    unfold Oper.wp execOp
    simp only [ho, hv, Sem.run_bind, Sem.run_pure, Result.andThen_ok, hl]
    exact hK _ _ h
theorem notF_new {F : Nat → Prop} {Wk W : World} {v v' : Value} (hlt : ∀ i, F i → i < Wk.heap.size) (hsz : Wk.heap.size ≤ W.heap.size) (h : OrNew W v v') (hn : ∀ g, v.ownBlock = some g → ¬ F g) : ∀ g, v'.ownBlock = some g → ¬ F g := fun g hg hF => by
  rcases h with h | ⟨g', h1, h2⟩
  · exact hn g (by rw [← h]; exact hg) hF
  · have := hlt g hF
    rw [hg] at h1
    obtain rfl := Option.some.inj h1
    omega
theorem sdC_one (s : Int × Nt) : ∀ u ∈ sdC s, u.oneCell' = true := fun u hu => by
  have := sideC_one s.1 s.2
  rw [Array.all_eq_true_iff_forall_mem] at this
  exact this u (by simpa [sdC] using hu)
end Go.Proofs.YtphabkaiheplpaaGreatDoor
