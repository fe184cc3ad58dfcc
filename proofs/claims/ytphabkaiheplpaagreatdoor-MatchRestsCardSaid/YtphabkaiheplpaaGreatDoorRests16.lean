/- Joined texts of this proof: BkP. -/
import Derived.Test.YtphabkaiheplpaaGreatDoorRests11
import Derived.Test.YtphabkaiheplpaaGreatDoorRests15
/- A book of sides in plain Lean: entries, pairs, who waits under which face, what Add does. -/
set_option linter.unusedVariables false
set_option linter.unusedSimpArgs false
set_option maxRecDepth 100000
namespace Go.Proofs.YtphabkaiheplpaaGreatDoor
open Go.RowKit Go.Shelf

/-- A side in a book: what became of it. -/
structure Ent where
  p : Int
  x : Nt
  lx : List Lk
  pair : Int
  asked : Bool
  gone : Bool
def nt0 : Nt := ⟨⟨#[]⟩, ⟨#[]⟩, false, false, false, 0, 0, fun _ => 0, 0, ⟨#[]⟩, ⟨#[]⟩, ⟨#[]⟩, 0, ⟨#[]⟩, 0, none, 0, 0⟩
def ent0 : Ent := ⟨0, nt0, [], 0, false, false⟩
structure Pr where
  d : Nat
  r : Nat
  a : Int
  gone : Bool
def pr0 : Pr := ⟨0, 0, 0, false⟩
def openB (e : Ent) : Bool := !e.gone && decide (e.pair < 0)
/-- Whether a new side and one that waits fit, and at which amount. -/
def fitK (zs : List ByteArray) (tol : Int) (n k : Ent) : Int × Bool := if n.x.receive then fitE k.p n.p k.x n.x zs tol else fitE n.p k.p n.x k.x zs tol
theorem sameL_iff (f g : Fc) : sameFace f g = true ↔ faceL f = faceL g := by unfold sameFace; simp
theorem sameFace_comm (f g : Fc) : sameFace f g = sameFace g f := by
  rw [Bool.eq_iff_iff, sameL_iff, sameL_iff]
  exact ⟨Eq.symm, Eq.symm⟩
theorem faceL_flip {f g : Fc} (h : faceL f = faceL { g with rcv := !g.rcv }) : faceL g = faceL { f with rcv := !f.rcv } := by
  unfold faceL at h ⊢
  simp only [List.cons.injEq, Lit.int.injEq, Lit.bool.injEq, Lit.string.injEq, true_and, and_true] at h ⊢
  obtain ⟨h1, h2, h3, h4, h5, h6, h7, h8, h9, h10, h11, h12, h13, h14, h15, h16, h17, h18, h19, h20, h21, h22, h23, h24, h25, h26, h27, h28, h29⟩ := h
  simp only [h1, h2, h3, h4, h5, h6, h7, h8, h9, h10, h11, h12, h13, h14, h15, h16, h17, h18, h19, h20, h21, h22, h23, h24, h25, h26, h27, h28, h29, Bool.not_not, and_self]
/-- Who fits has the other's face. -/
theorem fitK_face {zs : List ByteArray} {tol : Int} {n k : Ent} (h : (fitK zs tol n k).2 = true) : sameFace (faceE k.p k.x zs) (faceO n.p n.x zs) = true := by
  unfold fitK at h
  split at h
  · rw [← fitM_eq] at h
    unfold fitM at h
    split at h
    · cases h
    · rename_i hc
      simp only [Bool.or_eq_true, Bool.not_eq_true', not_or, Bool.not_eq_false] at hc
      rw [sameL_iff]
      exact faceL_flip ((sameL_iff _ _).1 hc.1.2)
  · rw [← fitM_eq] at h
    unfold fitM at h
    split at h
    · cases h
    · rename_i hc
      simp only [Bool.or_eq_true, Bool.not_eq_true', not_or, Bool.not_eq_false] at hc
      exact hc.1.2
/-- Who waits under a face: the open sides that have it, in their order. -/
noncomputable def wl (zs : List ByteArray) (es : List Ent) (f : Fc) : List Nat := (List.range es.length).filter fun k => openB (es.getD k ent0) && sameFace (faceE (es.getD k ent0).p (es.getD k ent0).x zs) f
/-- The first open side that fits. -/
noncomputable def firstK (zs : List ByteArray) (tol : Int) (es : List Ent) (n : Ent) : Option Nat := (List.range es.length).find? fun k => openB (es.getD k ent0) && (fitK zs tol n (es.getD k ent0)).2
theorem firstK_wl (zs : List ByteArray) (tol : Int) (es : List Ent) (n : Ent) : firstK zs tol es n = (wl zs es (faceO n.p n.x zs)).find? fun k => (fitK zs tol n (es.getD k ent0)).2 := by
  unfold firstK wl
  rw [List.find?_filter]
  congr 1
  funext k
  cases h1 : openB (es.getD k ent0) <;> cases h2 : (fitK zs tol n (es.getD k ent0)).2 <;> simp
  exact fitK_face h2
theorem wl_lt {zs : List ByteArray} {es : List Ent} {f : Fc} {k : Nat} (h : k ∈ wl zs es f) : k < es.length ∧ openB (es.getD k ent0) = true := by
  unfold wl at h
  simp only [List.mem_filter, List.mem_range, Bool.and_eq_true] at h
  exact ⟨h.1, h.2.1⟩
theorem wl_nodup (zs : List ByteArray) (es : List Ent) (f : Fc) : (wl zs es f).Nodup := List.nodup_range.sublist List.filter_sublist
theorem wl_le (zs : List ByteArray) (es : List Ent) (f : Fc) : (wl zs es f).length ≤ es.length := by
  have := List.length_filter_le (fun k => openB (es.getD k ent0) && sameFace (faceE (es.getD k ent0).p (es.getD k ent0).x zs) f) (List.range es.length)
  simpa [wl] using this
theorem getD_append_lt {es : List Ent} {e : Ent} {k : Nat} (h : k < es.length) : (es ++ [e]).getD k ent0 = es.getD k ent0 := by
  rw [List.getD_eq_getElem?_getD, List.getD_eq_getElem?_getD, List.getElem?_append_left h]
theorem getD_append_new (es : List Ent) (e : Ent) : (es ++ [e]).getD es.length ent0 = e := by
  rw [List.getD_eq_getElem?_getD]; simp
/-- One more side. -/
theorem wl_snoc (zs : List ByteArray) (es : List Ent) (e : Ent) (f : Fc) : wl zs (es ++ [e]) f = wl zs es f ++ (if openB e && sameFace (faceE e.p e.x zs) f then [es.length] else []) := by
  unfold wl
  rw [List.length_append, List.length_singleton, List.range_succ, List.filter_append]
  congr 1
  · apply List.filter_congr
    intro k hk
    rw [getD_append_lt (List.mem_range.1 hk)]
  · rw [List.filter_cons, getD_append_new, List.filter_nil]
/-- One side is no longer open. -/
theorem wl_shut (zs : List ByteArray) (es : List Ent) (k : Nat) (e : Ent) (f : Fc) (he : openB e = false) (hk : k < es.length) : wl zs (es.set k e) f = (wl zs es f).filter (· != k) := by
  unfold wl
  rw [List.length_set, List.filter_filter]
  apply List.filter_congr
  intro j hj
  have hj' := List.mem_range.1 hj
  by_cases h : j = k
  · subst h
    rw [List.getD_eq_getElem?_getD, List.getElem?_set_self hk]
    simp [he]
  · have e1 : (es.set k e).getD j ent0 = es.getD j ent0 := by
      rw [List.getD_eq_getElem?_getD, List.getD_eq_getElem?_getD, List.getElem?_set_ne (Ne.symm h)]
    rw [e1]
    simp [h]
/-- A side whose openness stays. -/
theorem wl_keep (zs : List ByteArray) (es : List Ent) (k : Nat) (e : Ent) (f : Fc) (he : openB e = openB (es.getD k ent0)) (hp : e.p = (es.getD k ent0).p) (hx : e.x = (es.getD k ent0).x) (hk : k < es.length) : wl zs (es.set k e) f = wl zs es f := by
  unfold wl
  rw [List.length_set]
  apply List.filter_congr
  intro j hj
  by_cases h : j = k
  · subst h
    rw [List.getD_eq_getElem?_getD, List.getElem?_set_self hk]
    show (openB e && _) = _
    rw [he, Option.getD_some, hp, hx]
  · rw [List.getD_eq_getElem?_getD, List.getElem?_set_ne (Ne.symm h), ← List.getD_eq_getElem?_getD]
theorem filter_ne_erase {l : List Nat} (hn : l.Nodup) {i k : Nat} (hi : l[i]? = some k) : l.filter (· != k) = l.eraseIdx i := by
  induction l generalizing i with
  | nil => simp at hi
  | cons a r ih =>
    obtain ⟨h1, h2⟩ := List.nodup_cons.1 hn
    cases i with
    | zero =>
      injection hi with hi
      subst hi
      rw [List.filter_cons]
      simp only [bne_self_eq_false, Bool.false_eq_true, if_false, List.eraseIdx_cons_zero]
      rw [List.filter_eq_self]
      intro x hx
      simp only [bne_iff_ne]
      intro e
      subst e
      exact h1 hx
    | succ i =>
      have hr : r[i]? = some k := by simpa using hi
      have hka : a ≠ k := by
        intro e
        subst e
        exact h1 (List.mem_of_getElem? hr)
      rw [List.filter_cons]
      simp only [bne_iff_ne, ne_eq, hka, not_false_eq_true, if_true, List.eraseIdx_cons_succ]
      rw [ih h2 hr]
theorem filter_ne_self {l : List Nat} {k : Nat} (h : k ∉ l) : l.filter (· != k) = l := by
  rw [List.filter_eq_self]
  intro x hx
  simp only [bne_iff_ne]
  intro e
  subst e
  exact h hx
end Go.Proofs.YtphabkaiheplpaaGreatDoor
