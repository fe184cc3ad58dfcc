/- Joined texts of this proof: Held, HeldE. -/
import Derived.Test.YtphabkaiheplpaaGreatDoorProg
import Derived.WalkKit
import Derived.Deep.RegionHeld3
/- In a region that draws its order a load whose answer is known in every world that meets a condition may be taken first. -/
namespace Go.Proofs.YtphabkaiheplpaaGreatDoor
open Go.RowKit

theorem yieldsIf_load_known {P : Program} {ops : Array Oper} {S : World → Prop} {op : Oper} {a : Act} (hw : Region.wanted op (yielded ops a.tmps) = true) (ty : TypeId) (x : Operand) (ho : op.op = .load ty x)
    (ad : Addr) (v : Value) (hx : a.eval x = .pointer (some ad)) (hS : ∀ w, S w → (loadVar ty ad).run P w = .ok v w) : YieldsIf P ops S op v a :=
  .inl ⟨hw, fun w hw' => by
    unfold execOp
    simp only [ho, hx, Instr.loadAt, Instr.sureAddr, Sem.run_bind, Sem.run_pure, Result.andThen_ok, hS w hw']⟩
end Go.Proofs.YtphabkaiheplpaaGreatDoor
/- A region that draws its order, walked once under a condition S on the world that need not hold behind the operations 'ds'. -/
namespace Go.Proofs.YtphabkaiheplpaaGreatDoor
open Go.RowKit

section
variable {P : Program} {ops : Array Oper} {Q : Exit → Act → World → Prop} {md : Region.Mode} {S : World → Prop} {ds : List Nat}
/-- S holds, or one of ds has come up. -/
def LeftS (ds : List Nat) (S : World → Prop) (listed : Array Bool) (w : World) : Prop := (∃ d ∈ ds, listed.getD d false = true) ∨ S w
def wpAnyE (P : Program) (md : Region.Mode) (ops : Array Oper) (Q : Exit → Act → World → Prop) (S : World → Prop) (ds : List Nat) : Nat → Array Bool → Act → World → Prop
  | 0, listed, a, w => Region.ready md ops listed = [] ∧ Q .normal a w
  | fuel + 1, listed, a, w =>
    (Region.ready md ops listed = [] → Q .normal a w) ∧
    ∀ i ∈ Region.ready md ops listed, wpOp P ops Q i (fun a' w' => LeftS ds S (listed.setIfInBounds i true) w' ∧ wpAnyE P md ops Q S ds fuel (listed.setIfInBounds i true) a' w') a w
theorem wpAny_of_heldE : ∀ (fuel : Nat) (listed : Array Bool) (a : Act) (w : World), wpAnyE P md ops Q S ds fuel listed a w → wpAny P md ops Q fuel listed a w
  | 0, _, _, _, h => h
  | fuel + 1, _, _, _, h => ⟨h.1, fun i hi => wpOp_mono (fun a' w' h' => wpAny_of_heldE fuel _ a' w' h'.2) (h.2 i hi)⟩
theorem getD_set_ne' {listed : Array Bool} {i j : Nat} (d : Bool) (h : i ≠ j) : (listed.setIfInBounds i true).getD j d = listed.getD j d := by
  simp only [Array.getD_eq_getD_getElem?, Array.getElem?_setIfInBounds]
  rw [if_neg h]
/-- Each of ds waits for i; none of them has come up. -/
def dsWait (md : Region.Mode) (ops : Array Oper) (ds : List Nat) (listed : Array Bool) (i : Nat) : Bool := ds.all fun d => d != i && !listed.getD d false && (match ops[d]? with | some o => o.after.any (fun e => Region.binds md e && e.on == i) | none => false)
theorem dsWait_spec {listed : Array Bool} {i d : Nat} (h : dsWait md ops ds listed i = true) (hd : d ∈ ds) : d ≠ i ∧ listed.getD d false = false ∧ ∃ o, ops[d]? = some o ∧ ∃ e ∈ o.after, Region.binds md e = true ∧ e.on = i := by
  have h1 := List.all_eq_true.1 h d hd
  simp only [Bool.and_eq_true, bne_iff_ne, Bool.not_eq_true'] at h1
  obtain ⟨⟨h2, h3⟩, h4⟩ := h1
  refine ⟨h2, h3, ?_⟩
  cases ho : ops[d]? with
  | none => rw [ho] at h4; cases h4
  | some o =>
    rw [ho] at h4
    simp only [Array.any_eq_true'] at h4
    obtain ⟨e, he, h5⟩ := h4
    simp only [Bool.and_eq_true, beq_iff_eq] at h5
    exact ⟨o, rfl, e, he, h5⟩
theorem wpAnyE_first {i : Nat} {oi : Oper} {v : Value} (hi : ops[i]? = some oi) (hsel : ∀ (j : Nat) (o : Oper) cs b, ops[j]? = some o → o.op ≠ .select cs b)
    (hQ : ∀ c a w, Q (.panic c) (a.put oi.dst v) w → Q (.panic c) a w) :
    ∀ (fuel : Nat) (listed : Array Bool) (a : Act) (w : World),
      (∀ j oj, ops[j]? = some oj → j ≠ i → listed.getD j true = false → (∀ e ∈ oj.after, Region.binds md e = true → e.on ≠ i) → oi.apart ops oj = true) →
      i ∈ Region.ready md ops listed → dsWait md ops ds listed i = true → YieldsIf P ops S oi v a → S w →
      wpAnyE P md ops Q S ds fuel (listed.setIfInBounds i true) (a.put oi.dst v) w → wpAnyE P md ops Q S ds (fuel + 1) listed a w := by
  intro fuel
  induction fuel with
  | zero =>
    intro listed a w _ hr _ hy hS H
    refine ⟨fun h => (by rw [h] at hr; cases hr), fun j hj => ?_⟩
    by_cases hji : j = i
    · subst hji; exact hy.wpOp hi hS ⟨.inr hS, H⟩
    · have := ready_mono hj hji
      rw [H.1] at this
      cases this
  | succ fuel ih =>
    intro listed a w hfree hr hds hy hS H
    refine ⟨fun h => (by rw [h] at hr; cases hr), fun j hj => ?_⟩
    by_cases hji : j = i
    · subst hji; exact hy.wpOp hi hS ⟨.inr hS, H⟩
    · have h1 := H.2 j (ready_mono hj hji)
      obtain ⟨hjun, oj, hoj, hall⟩ := mem_ready.1 hj
      have hnot : ∀ e ∈ oj.after, Region.binds md e = true → e.on ≠ i := fun e he hb heq => by
        have h1 := hall e he hb
        have h0 := (mem_ready.1 hr).1
        rw [heq] at h1
        rcases Nat.lt_or_ge i listed.size with h' | h'
        · simp [h'] at h0 h1; rw [h0] at h1; cases h1
        · simp [Array.getElem?_eq_none h'] at h1
      have hjd : j ∉ ds := fun hd => by
        obtain ⟨_, _, o, ho, e, he, hb, heq⟩ := dsWait_spec hds hd
        rw [hoj] at ho
        obtain rfl := Option.some.inj ho
        exact hnot e he hb heq
      have h2 := wpOp_putIf hoj (hfree j oj hoj hji hjun hnot) (fun cs b => hsel i oi cs b hi) (fun cs b => hsel j oj cs b hoj) hQ hy h1
      have hfree' : ∀ k ok, ops[k]? = some ok → k ≠ i → (listed.setIfInBounds j true).getD k true = false →
          (∀ e ∈ ok.after, Region.binds md e = true → e.on ≠ i) → oi.apart ops ok = true := fun k ok hk hki hun hno => by
        refine hfree k ok hk hki ?_ hno
        by_cases hjk : j = k
        · subst hjk; exact hjun
        · rw [getD_set_ne' true hjk] at hun; exact hun
      have hds' : dsWait md ops ds (listed.setIfInBounds j true) i = true := by
        unfold dsWait at hds ⊢
        rw [List.all_eq_true] at hds ⊢
        intro d hd
        have h6 := hds d hd
        have hne : j ≠ d := fun e => hjd (e ▸ hd)
        rw [getD_set_ne' false hne]
        exact h6
      refine wpOp_mono (fun a' w' h3 => ?_) h2
      have hS' : S w' := by
        rcases h3.2.1 with ⟨d, hd, hl⟩ | h4
        · exfalso
          obtain ⟨e1, e2, _⟩ := dsWait_spec hds hd
          have hne : j ≠ d := fun e => hjd (e ▸ hd)
          rw [getD_set_ne' false hne, getD_set_ne' false (Ne.symm e1), e2] at hl
          cases hl
        · exact h4
      refine ⟨.inr hS', ih (listed.setIfInBounds j true) a' w' hfree' (ready_mono hr (Ne.symm hji)) hds' h3.1 hS' ?_⟩
      rw [Array.setIfInBounds_comm _ _ hji]
      exact h3.2.2
theorem wpAnyE_take {i : Nat} {oi : Oper} {v : Value} {fuel : Nat} {listed : Array Bool} {a : Act} {w : World} (hi : ops[i]? = some oi)
    (hs : Region.noSelect ops = true) (hf : Region.free md ops listed i = true) (hr : (Region.ready md ops listed).contains i = true) (hds : dsWait md ops ds listed i = true)
    (hQ : ∀ c a w, Q (.panic c) (a.put oi.dst v) w → Q (.panic c) a w) (hy : YieldsIf P ops S oi v a) (hS : S w)
    (h : wpAnyE P md ops Q S ds fuel (listed.setIfInBounds i true) (a.put oi.dst v) w) : wpAnyE P md ops Q S ds (fuel + 1) listed a w :=
  wpAnyE_first hi (Region.noSelect_spec hs) hQ fuel listed a w (Region.free_spec hi hf) (by simpa using hr) hds hy hS h
def AllReadyE (P : Program) (md : Region.Mode) (ops : Array Oper) (Q : Exit → Act → World → Prop) (S : World → Prop) (ds : List Nat) (fuel : Nat) (listed : Array Bool) (a : Act) (w : World) (rs : List Nat) : Prop :=
  ∀ i ∈ rs, wpOp P ops Q i (fun a' w' => LeftS ds S (listed.setIfInBounds i true) w' ∧ wpAnyE P md ops Q S ds fuel (listed.setIfInBounds i true) a' w') a w
theorem AllReadyE.nil {fuel : Nat} {listed : Array Bool} {a : Act} {w : World} : AllReadyE P md ops Q S ds fuel listed a w [] := fun _ h => by cases h
theorem AllReadyE.cons {fuel : Nat} {listed : Array Bool} {a : Act} {w : World} {i : Nat} {o : Oper} {rs : List Nat} (ho : ops[i]? = some o)
    (h : ∀ K' : Act → World → Prop, Shut (∀ a w, LeftS ds S (listed.setIfInBounds i true) w → (LeftS ds S (listed.setIfInBounds i true) w → wpAnyE P md ops Q S ds fuel (listed.setIfInBounds i true) a w) → K' a w) → if Region.wanted o (yielded ops a.tmps) = true then Oper.wp P o a w K' Q else K' (a.put o.dst undef) w)
    (hs : AllReadyE P md ops Q S ds fuel listed a w rs) : AllReadyE P md ops Q S ds fuel listed a w (i :: rs) := fun j hj => by
  rcases List.mem_cons.1 hj with rfl | hj
  · exact wpOp_step ho (fun K' hK => h K' (fun a w hS hW => hK a w ⟨hS, hW hS⟩))
  · exact hs j hj
theorem wpAnyE_ready {rs : List Nat} {fuel : Nat} {listed : Array Bool} {a : Act} {w : World} (hr : Region.ready md ops listed = rs) (hne : rs ≠ [])
    (h : AllReadyE P md ops Q S ds fuel listed a w rs) : wpAnyE P md ops Q S ds (fuel + 1) listed a w := ⟨fun h0 => absurd (hr ▸ h0) hne, hr ▸ h⟩
theorem wpAnyE_done {listed : Array Bool} {a : Act} {w : World} (hr : Region.ready md ops listed = []) (h : Q .normal a w) : ∀ fuel, wpAnyE P md ops Q S ds fuel listed a w
  | 0 => ⟨hr, h⟩
  | _ + 1 => ⟨fun _ => h, by rw [hr]; simp⟩
theorem wp_region_heldE {id : Nat} {a : Act} {w : World} (hm : P.follows .mixedOrders = true) (hS : S w.drew)
    (h : S w.drew → wpAnyE P .any ops Q S ds ops.size (Array.replicate ops.size false) a w.drew) : (Code.region id ops true).wp P Q a w :=
  wp_region_any hm (wpAny_of_heldE _ _ _ _ (h hS))
/-- An operation whose run is known. -/
theorem oper_value {o : Oper} {a : Act} {w w2 : World} {v : Value} {K : Act → World → Prop} (h : (execOp a.eval o).run P w = .ok (.value v) w2) (hK : K (a.put o.dst v) w2) : Oper.wp P o a w K Q := by
  unfold Oper.wp
  rw [h]
  exact hK
theorem oper_skip {o : Oper} {a : Act} {w w2 : World} {K : Act → World → Prop} (h : (execOp a.eval o).run P w = .ok .skip w2) (hK : K (a.put o.dst undef) w2) : Oper.wp P o a w K Q := by
  unfold Oper.wp
  rw [h]
  exact hK
theorem yieldsIf_run {op : Oper} {a : Act} {v : Value} (hw : Region.wanted op (yielded ops a.tmps) = true) (h : ∀ w, S w → (execOp a.eval op).run P w = .ok (.value v) w) : YieldsIf P ops S op v a := .inl ⟨hw, h⟩
theorem wp_load_known {o : Oper} {a : Act} {w : World} {K : Act → World → Prop} (ty : TypeId) (x : Operand) (ho : o.op = .load ty x) (ad : Addr) (v : Value) (hx : a.eval x = .pointer (some ad)) (hl : (loadVar ty ad).run P w = .ok v w) (hK : K (a.put o.dst v) w) : Oper.wp P o a w K Q := by
  unfold Oper.wp execOp
  simp only [ho, hx, Instr.loadAt, Instr.sureAddr, Sem.run_bind, Sem.run_pure, Result.andThen_ok, hl]
  exact hK
theorem wp_store_known {o : Oper} {a : Act} {w w2 : World} {K : Act → World → Prop} (ty : TypeId) (x y : Operand) (ho : o.op = .store ty x y) (ad : Addr) (v : Value) (hx : a.eval x = .pointer (some ad)) (hy : a.eval y = v) (hl : (storeVar ty ad v).run P w = .ok () w2) (hK : K (a.put o.dst undef) w2) : Oper.wp P o a w K Q := by
  unfold Oper.wp execOp
  simp only [ho, hx, hy, Instr.storeAt, Instr.sureAddr, Sem.run_bind, Sem.run_pure, Result.andThen_ok, hl]
  exact hK
theorem wp_mapUpdate_known {o : Oper} {a : Act} {w w2 : World} {K : Act → World → Prop} (t : TypeId) (m x y : Operand) (ho : o.op = .mapUpdate t m x y) (mv key val : Value) (hm : a.eval m = mv) (hx : a.eval x = key) (hy : a.eval y = val) (hl : (Instr.mapUpdate t mv key val).run P w = .ok () w2) (hK : K (a.put o.dst undef) w2) : Oper.wp P o a w K Q := by
  unfold Oper.wp execOp
  simp only [ho, hm, hx, hy, Sem.run_bind, Sem.run_pure, Result.andThen_ok, hl]
  exact hK
theorem wp_entryStore_known {o : Oper} {a : Act} {w w2 : World} {K : Act → World → Prop} (t : TypeId) (m x y : Operand) (ho : o.op = .entryStore t m x y) (mv key val : Value) (hm : a.eval m = mv) (hx : a.eval x = key) (hy : a.eval y = val) (hl : (Instr.entryStore t mv key val).run P w = .ok () w2) (hK : K (a.put o.dst undef) w2) : Oper.wp P o a w K Q := by
  unfold Oper.wp execOp
  simp only [ho, hm, hx, hy, Sem.run_bind, Sem.run_pure, Result.andThen_ok, hl]
  exact hK
theorem wp_mapEntry_known {o : Oper} {a : Act} {w w2 : World} {K : Act → World → Prop} (t : TypeId) (m x : Operand) (ho : o.op = .mapEntry t m x) (mv key v : Value) (hm : a.eval m = mv) (hx : a.eval x = key) (hl : (Instr.mapEntry t mv key).run P w = .ok v w2) (hK : K (a.put o.dst v) w2) : Oper.wp P o a w K Q := by
  unfold Oper.wp execOp
  simp only [ho, hm, hx, Sem.run_bind, Sem.run_pure, Result.andThen_ok, hl]
  exact hK
theorem yields_lookup {op : Oper} {a : Act} (hw : Region.wanted op (yielded ops a.tmps) = true) (t : TypeId) (m x : Operand) (ok : Bool) (ho : op.op = .lookup t m x ok) (mv key v : Value) (hm : a.eval m = mv) (hx : a.eval x = key) (h : ∀ w, S w → (Instr.lookup t mv key ok).run P w = .ok v w) : YieldsIf P ops S op v a :=
  .inl ⟨hw, fun w hw' => by
    unfold execOp
    simp only [ho, hm, hx, Sem.run_bind, Sem.run_pure, Result.andThen_ok, h w hw']⟩
theorem yields_build {op : Oper} {a : Act} (hw : Region.wanted op (yielded ops a.tmps) = true) (t : TypeId) (qs : Array (Nat × Operand)) (ho : op.op = .build t qs) (vs : Array (Nat × Value)) (v : Value) (hv : (qs.toList.map fun p => (p.1, a.eval p.2)) = vs.toList) (h : ∀ w, S w → (Instr.build t vs).run P w = .ok v w) : YieldsIf P ops S op v a :=
  .inl ⟨hw, fun w hw' => by
    have hv' : qs.map (fun (i, x) => (i, a.eval x)) = vs := by
      apply Array.toList_inj.1
      rw [Array.toList_map]
      exact hv
    unfold execOp
    simp only [ho, hv', Sem.run_bind, Sem.run_pure, Result.andThen_ok, h w hw']⟩
end
end Go.Proofs.YtphabkaiheplpaaGreatDoor
