/- Joined texts of this proof: RsU. -/
import Derived.Test.YtphabkaiheplpaaGreatDoorRests46
/- What MatchRests's loop keeps. -/
set_option linter.unusedVariables false
set_option linter.unusedSimpArgs false
set_option maxRecDepth 100000
namespace Go.Proofs.YtphabkaiheplpaaGreatDoor
open Go.RowKit Go.Shelf Go.Maps

def goneF (es : List Ent) (k : Nat) : Bool := (es.getD k ent0).gone
def TwinS (s : Int × Nt) (e : Ent) : Prop := e.p = s.1 ∧ ∃ la lc, e.x = { s.2 with la := la, lc := lc }
/-- A row stays under a call that keeps to a footprint. -/
theorem ow_fr {F : Nat → Prop} {W W1 : World} {base : Nat} {e : TypeId} {size n : Nat} {v : Value} {xs : List Value} (h : W.ownsRow base e size v n xs) (hf : Fr F W W1) (hn : ∀ g, v.ownBlock = some g → ¬ F g) : W1.ownsRow base e size v n xs := by
  rcases h with ⟨h0, h1 | ⟨g, cap, cur, rfl, h2, hg, h3⟩⟩
  · exact ⟨h0, .inl h1⟩
  · refine ⟨h0, .inr ⟨g, cap, cur, rfl, h2, ?_, h3⟩⟩
    rw [hf.block g (Array.getElem?_eq_some_iff.1 hg).1 (hn g rfl)]
    exact hg
structure ScI (w wr : World) (F : Nat → Prop) (b : Nat) (zs : List ByteArray) (tol : Int) (es : List Ent) (ps : List Pr) (v8 v9 : Value) (sl : List (Int × Nt)) (k : Nat) : Prop where
  bk : BkI F wr b zs tol es ps
  st : StOk zs es ps
  ri : RestI zs tol es ps
  low : Below w.heap.size w wr
  ge : ∀ i, F i → w.heap.size ≤ i
  pf : PowFree F
  len : sl.length = es.length
  le : es.length ≤ k
  lp : ps.length ≤ k
  r8 : wr.ownsRow w.heap.size 28 28 v8 sl.length (sl.flatMap sdC)
  r9 : wr.ownsRow w.heap.size 4 1 v9 es.length (flags es.length (goneF es))
  n8 : ∀ g, v8.ownBlock = some g → ¬ F g
  n9 : ∀ g, v9.ownBlock = some g → ¬ F g
  tw : ∀ j, j < es.length → TwinS (sl.getD j (0, nt0)) (es.getD j ent0)
  so : ∀ j, j < es.length → I64 (sl.getD j (0, nt0)).1 ∧ (sl.getD j (0, nt0)).2.wf
section
variable {w wr : World} {F : Nat → Prop} {b : Nat} {zs : List ByteArray} {tol : Int} {es : List Ent} {ps : List Pr} {v8 v9 : Value} {sl : List (Int × Nt)} {k : Nat}
theorem ScI.grow (h : ScI w wr F b zs tol es ps v8 v9 sl k) {W : World} (hb : Below wr.heap.size wr W) : ScI w W F b zs tol es ps v8 v9 sl k :=
  { h with bk := h.bk.grow hb, low := bl_then h.low hb, r8 := ow_none h.r8 (gb_below hb), r9 := ow_none h.r9 (gb_below hb) }
theorem ScI.more (h : ScI w wr F b zs tol es ps v8 v9 sl k) {j : Nat} (hj : k ≤ j) : ScI w wr F b zs tol es ps v8 v9 sl j :=
  { h with le := Nat.le_trans h.le hj, lp := Nat.le_trans h.lp hj }
theorem ScI.new {W : World} (h : ScI w wr F b zs tol es ps v8 v9 sl k) {v : Value} (hl : ∀ g, v.ownBlock = some g → g < wr.heap.size) (hn : ∀ g, v.ownBlock = some g → ¬ F g) : ∀ g, v.ownBlock = some g → ¬ newF F wr W g := fun g hg hf => by
  rcases hf with hf | hf
  · exact hn g hg hf
  · have := hl g hg
    omega
theorem ScI.newGe (h : ScI w wr F b zs tol es ps v8 v9 sl k) {W : World} : ∀ i, newF F wr W i → w.heap.size ≤ i := fun i hi => by
  rcases hi with hi | hi
  · exact h.ge i hi
  · have := h.low.size
    omega
theorem ScI.frLow (h : ScI w wr F b zs tol es ps v8 v9 sl k) {W : World} (hf : Fr F wr W) : Below w.heap.size w W := below_fr h.low hf h.ge h.low.size
end
/-- The flags and sides of a book of one side more: until the law's own lists have grown. -/
theorem flags_eq {n : Nat} {f g : Nat → Bool} (h : ∀ i, i < n → f i = g i) : flags n f = flags n g := by
  unfold flags
  apply List.map_congr_left
  intro i hi
  rw [h i (List.mem_range.1 hi)]
theorem addRes_len {zs : List ByteArray} {tol : Int} {es : List Ent} {ps : List Pr} (e : Ent) : (addRes zs tol es ps e).2.1.length = es.length + 1 ∧ (addRes zs tol es ps e).2.2.length ≤ ps.length + 1 := by
  unfold addRes
  split
  · exact ⟨by simp, Nat.le_succ _⟩
  · exact ⟨by rw [paired_length]; simp, by simp⟩
/-- What Add leaves of each side. -/
theorem addRes_at {zs : List ByteArray} {tol : Int} {es : List Ent} {ps : List Pr} (e : Ent) (j : Nat) : ((addRes zs tol es ps e).2.1.getD j ent0).p = ((es ++ [e]).getD j ent0).p ∧ ((addRes zs tol es ps e).2.1.getD j ent0).x = ((es ++ [e]).getD j ent0).x ∧ ((addRes zs tol es ps e).2.1.getD j ent0).gone = ((es ++ [e]).getD j ent0).gone := by
  unfold addRes
  split
  · exact ⟨rfl, rfl, rfl⟩
  · rename_i k hk
    have hkl : k < es.length := by
      unfold firstK at hk
      exact List.mem_range.1 (List.mem_of_find?_eq_some hk)
    have hlt := drOf_lt e hkl
    show ((paired (es ++ [e]) _ _ _).getD j ent0).p = _ ∧ _ ∧ _
    rw [paired_getD hlt.1 hlt.2]
    split <;> exact ⟨rfl, rfl, rfl⟩
theorem cancel_at {es : List Ent} {ps : List Pr} {i : Nat} (hi : i < es.length) (hq : ∀ m, m < ps.length → (ps.getD m pr0).d < es.length ∧ (ps.getD m pr0).r < es.length) (hb : (es.getD i ent0).pair < ps.length) (j : Nat) :
    ((cancelAt es ps i).2.2.1.getD j ent0).p = (es.getD j ent0).p ∧ ((cancelAt es ps i).2.2.1.getD j ent0).x = (es.getD j ent0).x ∧ (cancelAt es ps i).2.2.1.length = es.length ∧ (cancelAt es ps i).2.2.2.length = ps.length := by
  have key : ∀ (l : List Ent) (d : Nat) (e : Ent), d < l.length → e.p = (l.getD d ent0).p → e.x = (l.getD d ent0).x → ((l.set d e).getD j ent0).p = (l.getD j ent0).p ∧ ((l.set d e).getD j ent0).x = (l.getD j ent0).x := fun l d e hd hp hx => by
    rw [set_getD hd]
    split
    · rename_i h; subst h; exact ⟨hp, hx⟩
    · exact ⟨rfl, rfl⟩
  by_cases hg : (es.getD i ent0).gone = true
  · unfold cancelAt; rw [if_pos hg]; exact ⟨rfl, rfl, rfl, rfl⟩
  · by_cases hp : (es.getD i ent0).pair < 0
    · unfold cancelAt; rw [if_neg hg, if_pos hp]
      have k1 := key es i { es.getD i ent0 with gone := true } hi rfl rfl
      exact ⟨k1.1, k1.2, by simp, rfl⟩
    · have hm := hq (es.getD i ent0).pair.toNat (by omega)
      obtain ⟨q, hQ⟩ : ∃ q, q = ps.getD (es.getD i ent0).pair.toNat pr0 := ⟨_, rfl⟩
      obtain ⟨e1, hE⟩ : ∃ e1, e1 = es.set i { es.getD i ent0 with asked := true } := ⟨_, rfl⟩
      have hc : cancelAt es ps i = if ((e1.getD q.d ent0).asked && (e1.getD q.r ent0).asked) = true then (0, true, (e1.set q.d { e1.getD q.d ent0 with gone := true }).set q.r { (e1.set q.d { e1.getD q.d ent0 with gone := true }).getD q.r ent0 with gone := true }, ps.set (es.getD i ent0).pair.toNat { q with gone := true }) else (0, false, e1, ps) := by
        subst hQ hE
        unfold cancelAt
        rw [if_neg hg, if_neg hp]
      have k1 := key es i { es.getD i ent0 with asked := true } hi rfl rfl
      rw [← hE] at k1
      have hl1 : e1.length = es.length := by rw [hE]; simp
      rw [← hQ] at hm
      rw [hc]
      clear hc hE hQ
      split
      · have k2 := key e1 q.d { e1.getD q.d ent0 with gone := true } (by rw [hl1]; exact hm.1) rfl rfl
        have k3 := key (e1.set q.d { e1.getD q.d ent0 with gone := true }) q.r { (e1.set q.d { e1.getD q.d ent0 with gone := true }).getD q.r ent0 with gone := true } (by rw [List.length_set, hl1]; exact hm.2) rfl rfl
        exact ⟨k3.1.trans (k2.1.trans k1.1), k3.2.trans (k2.2.trans k1.2), by simp [hl1], by simp⟩
      · exact ⟨k1.1, k1.2, hl1, rfl⟩
/-- Cancel that does not end a side changes no side's being gone. -/
theorem cancel_not {es : List Ent} {ps : List Pr} {i : Nat} (hi : i < es.length) (h1 : (cancelAt es ps i).2.1 = false) (j : Nat) : ((cancelAt es ps i).2.2.1.getD j ent0).gone = (es.getD j ent0).gone := by
  by_cases hg : (es.getD i ent0).gone = true
  · unfold cancelAt; rw [if_pos hg]
  · by_cases hp : (es.getD i ent0).pair < 0
    · exfalso
      unfold cancelAt at h1
      rw [if_neg hg, if_pos hp] at h1
      cases h1
    · obtain ⟨q, hQ⟩ : ∃ q, q = ps.getD (es.getD i ent0).pair.toNat pr0 := ⟨_, rfl⟩
      obtain ⟨e1, hE⟩ : ∃ e1, e1 = es.set i { es.getD i ent0 with asked := true } := ⟨_, rfl⟩
      have hc : cancelAt es ps i = if ((e1.getD q.d ent0).asked && (e1.getD q.r ent0).asked) = true then (0, true, (e1.set q.d { e1.getD q.d ent0 with gone := true }).set q.r { (e1.set q.d { e1.getD q.d ent0 with gone := true }).getD q.r ent0 with gone := true }, ps.set (es.getD i ent0).pair.toNat { q with gone := true }) else (0, false, e1, ps) := by
        subst hQ hE
        unfold cancelAt
        rw [if_neg hg, if_neg hp]
      rw [hc] at h1 ⊢
      clear hc
      split at h1
      · cases h1
      · rename_i h2
        rw [if_neg h2]
        show (e1.getD j ent0).gone = _
        rw [hE, set_getD hi]
        split
        · rename_i h; subst h; rfl
        · rfl
section
variable {w wr : World} {F : Nat → Prop} {b : Nat} {zs : List ByteArray} {tol : Int} {es : List Ent} {ps : List Pr} {v8 v9 : Value} {sl : List (Int × Nt)} {k : Nat}
theorem ScI.bound (h : ScI w wr F b zs tol es ps v8 v9 sl k) {i : Nat} (hi : i < es.length) : (∀ m, m < ps.length → (ps.getD m pr0).d < es.length ∧ (ps.getD m pr0).r < es.length) ∧ (es.getD i ent0).pair < ps.length :=
  ⟨fun m hm => by have := h.st.prs _ (pr_mem hm); exact ⟨this.1, this.2.1⟩, (h.st.ent _ (getD_mem hi)).2.2.2.2.2.1⟩
/-- Behind a Cancel: the sides are as they were. -/
theorem ScI.canceled (h : ScI w wr F b zs tol es ps v8 v9 sl k) {W W2 : World} {i : Nat} (hi : i < es.length) (hb : BkI (newF F wr W) W b zs tol (cancelAt es ps i).2.2.1 (cancelAt es ps i).2.2.2) (hf : Fr F wr W) (hpw : PowT w) (hst : StOk zs (cancelAt es ps i).2.2.1 (cancelAt es ps i).2.2.2) (hb2 : Below W.heap.size W W2) {v9' : Value}
    (h9 : W2.ownsRow w.heap.size 4 1 v9' es.length (flags es.length (goneF (cancelAt es ps i).2.2.1))) (hn9 : ∀ g, v9'.ownBlock = some g → ¬ newF F wr W g) : ScI w W2 (newF F wr W) b zs tol (cancelAt es ps i).2.2.1 (cancelAt es ps i).2.2.2 v8 v9' sl k := by
  have hl := (cancel_at hi (h.bound hi).1 (h.bound hi).2 0).2.2
  refine ⟨hb.grow hb2, hst, h.ri.cancel h.st hi, bl_then (h.frLow hf) hb2, h.newGe, h.pf.newF (hpw.below h.low), by rw [hl.1]; exact h.len, by rw [hl.1]; exact h.le, by rw [hl.2]; exact h.lp, ow_none (ow_fr h.r8 hf h.n8) (gb_below hb2), by rw [hl.1]; exact h9, h.new (fun g hg => row_lt h.r8 hg) h.n8, hn9, fun j hj => ?_, fun j hj => h.so j (by rw [hl.1] at hj; exact hj)⟩
  have hc := cancel_at hi (h.bound hi).1 (h.bound hi).2 j
  rw [hl.1] at hj
  have ht := h.tw j hj
  unfold TwinS at *
  rw [hc.1, hc.2.1]
  exact ht
/-- A row that is not the book's has grown. -/
theorem BkI.rowGrown {W1 : World} {v : Value} (h : BkI F wr b zs tol es ps) (hg : wr.grownBy W1 v.ownBlock) (hn : ∀ g, v.ownBlock = some g → ¬ F g) : BkI F W1 b zs tol es ps :=
  h.other (G := fun i => v.ownBlock = some i) ⟨hg.os, hg.tape, hg.output, hg.size, fun i hi hG => hg.block i hi (fun e => hG e.symm)⟩ (fun i hf hG => hn i hG hf)
theorem StOk.of_bk (h : BkI F wr b zs tol es ps) : StOk zs es ps := by
  obtain ⟨_, _, _, _, _, _, _, _, h, _, _⟩ := h
  exact h
/-- Behind an Add and both appends. -/
theorem ScI.added (h : ScI w wr F b zs tol es ps v8 v9 sl k) {W W4 : World} {e : Ent} {p : Int} {x : Nt} (hb : BkI (newF F wr W) W4 b zs tol (addRes zs tol es ps e).2.1 (addRes zs tol es ps e).2.2) (hf : Fr F wr W) (hpw : PowT w) (hlow : Below w.heap.size w W4) (hpr : e.pair = -1) (hg : e.gone = false) (ht : TwinS (p, x) e) (hp : I64 p) (hx : x.wf) {v8' v9' : Value}
    (h8 : W4.ownsRow w.heap.size 28 28 v8' (sl.length + 1) (sl.flatMap sdC ++ sdC (p, x))) (h9 : W4.ownsRow w.heap.size 4 1 v9' (es.length + 1) (flags es.length (goneF es) ++ [.bool false])) (hn8 : ∀ g, v8'.ownBlock = some g → ¬ newF F wr W g) (hn9 : ∀ g, v9'.ownBlock = some g → ¬ newF F wr W g) :
    ScI w W4 (newF F wr W) b zs tol (addRes zs tol es ps e).2.1 (addRes zs tol es ps e).2.2 v8' v9' (sl ++ [(p, x)]) (k + 1) := by
  have hl := addRes_len (zs := zs) (tol := tol) (es := es) (ps := ps) e
  have hsl : ∀ j, j < es.length → (sl ++ [(p, x)]).getD j (0, nt0) = sl.getD j (0, nt0) := fun j hj => by
    rw [List.getD_eq_getElem?_getD, List.getD_eq_getElem?_getD, List.getElem?_append_left (by rw [h.len]; exact hj)]
  have hsn : (sl ++ [(p, x)]).getD es.length (0, nt0) = (p, x) := by
    rw [List.getD_eq_getElem?_getD, ← h.len]; simp
  refine ⟨hb, StOk.of_bk hb, h.ri.add h.st hpr hg, hlow, h.newGe, h.pf.newF (hpw.below h.low), by rw [hl.1, List.length_append, h.len]; rfl, by rw [hl.1]; have := h.le; omega, by have := h.lp; omega, ?_, ?_, hn8, hn9, fun j hj => ?_, fun j hj => ?_⟩
  · rw [List.length_append, List.flatMap_append]
    have : [(p, x)].flatMap sdC = sdC (p, x) := by simp
    rw [this]
    exact h8
  · rw [hl.1]
    have e1 : flags (es.length + 1) (goneF (addRes zs tol es ps e).2.1) = flags es.length (goneF es) ++ [.bool false] := by
      rw [← flags_snoc]
      congr 1
      · apply flags_eq
        intro i hi
        unfold goneF
        rw [(addRes_at e i).2.2, getD_lt_append hi]
      · unfold goneF
        rw [(addRes_at e es.length).2.2, getD_append_new, hg]
    rw [e1]
    exact h9
  · rw [hl.1] at hj
    unfold TwinS at *
    rw [(addRes_at e j).1, (addRes_at e j).2.1]
    by_cases h1 : j < es.length
    · rw [hsl j h1, getD_lt_append h1]
      exact h.tw j h1
    · have : j = es.length := by omega
      subst this
      rw [hsn, getD_append_new]
      exact ht
  · rw [hl.1] at hj
    by_cases h1 : j < es.length
    · rw [hsl j h1]
      exact h.so j h1
    · have : j = es.length := by omega
      subst this
      rw [hsn]
      exact ⟨hp, hx⟩
end
end Go.Proofs.YtphabkaiheplpaaGreatDoor
