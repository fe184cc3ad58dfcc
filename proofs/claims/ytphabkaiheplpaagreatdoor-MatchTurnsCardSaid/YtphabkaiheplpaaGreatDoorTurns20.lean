/- Joined texts of this proof: BkW. -/
import Derived.Test.YtphabkaiheplpaaGreatDoorTurns19
/- Who waits, in plain Lean: one more under a face, one less. -/
set_option linter.unusedVariables false
set_option linter.unusedSimpArgs false
set_option maxRecDepth 100000
namespace Go.Proofs.YtphabkaiheplpaaGreatDoor
open Go.RowKit Go.Shelf Go.Maps

abbrev Wq := Fc × Value × List Nat
theorem sf_trans {f g h : Fc} (h1 : sameFace f g = true) (h2 : sameFace f h = true) : sameFace g h = true := by
  rw [sameL_iff] at h1 h2 ⊢
  exact h1.symm.trans h2
theorem sf_same {f g h : Fc} (h1 : sameFace f g = true) : sameFace f h = sameFace g h := by
  rw [Bool.eq_iff_iff, sameL_iff, sameL_iff, (sameL_iff _ _).1 h1]
theorem sf_self (f : Fc) : sameFace f f = true := (sameL_iff _ _).2 rfl
/-- The list under a face that stands at place j. -/
theorem wsGet_at {ws : List Wq} (hk : ws.Pairwise fun p q => sameFace p.1 q.1 = false) {j : Nat} {q : Wq} (hj : ws[j]? = some q) {f : Fc} (hf : sameFace q.1 f = true) : wsGet ws f = q.2.2 := by
  induction ws generalizing j with
  | nil => cases hj
  | cons a r ih =>
    obtain ⟨h1, h2⟩ := List.pairwise_cons.1 hk
    unfold wsGet
    cases j with
    | zero =>
      injection hj with hj
      subst hj
      rw [List.find?_cons, hf]
      rfl
    | succ j =>
      have hr : r[j]? = some q := by simpa using hj
      have ha : sameFace a.1 f = false := by
        have h3 := h1 q (List.mem_of_getElem? hr)
        rw [← Bool.not_eq_true]
        intro h4
        rw [sf_same h4] at h3
        rw [sameFace_comm, hf] at h3
        cases h3
      rw [List.find?_cons, ha]
      exact ih h2 hr
theorem wsGet_none {ws : List Wq} {f : Fc} (h : ∀ q ∈ ws, sameFace q.1 f = false) : wsGet ws f = [] := by
  unfold wsGet
  rw [List.find?_eq_none.2 (fun q hq => by rw [h q hq]; simp)]
  rfl
theorem wsGet_set {ws : List Wq} (hk : ws.Pairwise fun p q => sameFace p.1 q.1 = false) {j : Nat} {q : Wq} (hj : ws[j]? = some q) (v' : Value) (l' : List Nat) (f : Fc) : wsGet (ws.set j (q.1, v', l')) f = if sameFace q.1 f then l' else wsGet ws f := by
  induction ws generalizing j with
  | nil => cases hj
  | cons a r ih =>
    obtain ⟨h1, h2⟩ := List.pairwise_cons.1 hk
    cases j with
    | zero =>
      injection hj with hj
      subst hj
      unfold wsGet
      rw [List.set_cons_zero, List.find?_cons, List.find?_cons]
      cases h : sameFace a.1 f <;> simp [h]
    | succ j =>
      have hr : r[j]? = some q := by simpa using hj
      have h3 := h1 q (List.mem_of_getElem? hr)
      have := ih h2 hr
      unfold wsGet at this ⊢
      rw [List.set_cons_succ, List.find?_cons, List.find?_cons]
      cases h : sameFace a.1 f with
      | true =>
        have h4 : sameFace q.1 f = false := by
          rw [← Bool.not_eq_true]
          intro h5
          rw [sf_same h] at h3
          rw [sameFace_comm, h5] at h3
          cases h3
        simp [h4]
      | false => exact this
theorem keys_set {ws : List Wq} (hk : ws.Pairwise fun p q => sameFace p.1 q.1 = false) {j : Nat} {q : Wq} (hj : ws[j]? = some q) (v' : Value) (l' : List Nat) : (ws.set j (q.1, v', l')).Pairwise fun p q => sameFace p.1 q.1 = false := by
  have e : ∀ (l : List Wq), (l.Pairwise fun p q => sameFace p.1 q.1 = false) ↔ (l.map (·.1)).Pairwise fun p q => sameFace p q = false := fun l => by rw [List.pairwise_map]
  rw [e] at hk ⊢
  rw [List.map_set, List.set_getElem_self_of (by rw [List.getElem?_map, hj]; rfl)]
  exact hk
theorem mem_set_of {α : Type} {l : List α} {j : Nat} {a x : α} (h : x ∈ l.set j a) : x = a ∨ x ∈ l := by
  rcases List.mem_or_eq_of_mem_set h with h | h
  · exact .inr h
  · exact .inl h
/-- What a face tells among the keys. -/
theorem face_absent {ws : List Wq} (hw : ∀ q ∈ ws, q.1.wf) {f : Fc} (hf : f.wf) (h : ∀ p ∈ ws.map kwF, p.1 ≠ keyF f) : ∀ q ∈ ws, sameFace q.1 f = false := fun q hq => by
  rw [← Bool.not_eq_true]
  intro e
  exact h _ (List.mem_map.2 ⟨q, hq, rfl⟩) ((keyF_inj (hw q hq) hf).2 e)
theorem face_present {ws : List Wq} (hw : ∀ q ∈ ws, q.1.wf) {f : Fc} (hf : f.wf) {j : Nat} {v : Value} (h : (ws.map kwF)[j]? = some (keyF f, v)) : ∃ q : Wq, ws[j]? = some q ∧ sameFace q.1 f = true ∧ q.2.1 = v := by
  rw [List.getElem?_map] at h
  obtain ⟨q, hq, e⟩ := Option.map_eq_some_iff.1 h
  have e2 := Prod.mk.inj e
  exact ⟨q, hq, (keyF_inj (hw q (List.mem_of_getElem? hq)) hf).1 e2.1, e2.2⟩
theorem kw_set {ws : List Wq} (hw : ∀ q ∈ ws, q.1.wf) {f : Fc} (hf : f.wf) {j : Nat} {q : Wq} (hq : ws[j]? = some q) (hs : sameFace q.1 f = true) (v' : Value) (l' : List Nat) : (ws.map kwF).set j (keyF f, v') = (ws.set j (q.1, v', l')).map kwF := by
  rw [List.map_set]
  congr 1
  show (keyF f, v') = (keyF q.1, v')
  rw [(keyF_inj (hw q (List.mem_of_getElem? hq)) hf).2 hs]
/-- One more waits. -/
theorem WsOk.snoc_new {zs : List ByteArray} {es : List Ent} {ws : List Wq} (h : WsOk zs es ws) (e : Ent) (ho : openB e = true) (hf : (faceE e.p e.x zs).wf) (ha : ∀ q ∈ ws, sameFace q.1 (faceE e.p e.x zs) = false) (v' : Value) :
    WsOk zs (es ++ [e]) (ws ++ [(faceE e.p e.x zs, v', [es.length])]) := by
  refine ⟨fun q hq => ?_, ?_, fun f hw => ?_⟩
  · rcases List.mem_append.1 hq with hq | hq
    · exact h.fwf q hq
    · simp at hq; rw [hq]; exact hf
  · rw [List.pairwise_append]
    exact ⟨h.keys, by simp, fun p hp q hq => by simp at hq; rw [hq]; exact ha p hp⟩
  · rw [wl_snoc, ho, Bool.true_and, ← h.get f hw]
    have e1 : wsGet (ws ++ [(faceE e.p e.x zs, v', [es.length])]) f = if sameFace (faceE e.p e.x zs) f then [es.length] else wsGet ws f := by
      cases hs : sameFace (faceE e.p e.x zs) f with
      | false =>
        unfold wsGet
        rw [List.find?_append, List.find?_cons, hs]
        simp
      | true =>
        unfold wsGet
        rw [List.find?_append, List.find?_eq_none.2 (fun q hq => by
          have := ha q hq
          rw [sameFace_comm, sf_same hs, sameFace_comm] at this
          simp [this]), List.find?_cons, hs]
        rfl
    rw [e1]
    cases hs : sameFace (faceE e.p e.x zs) f with
    | false => simp
    | true =>
      rw [wsGet_none (fun q hq => by
        have := ha q hq
        rwa [sameFace_comm, sf_same hs, sameFace_comm] at this)]
      rfl
theorem WsOk.snoc_old {zs : List ByteArray} {es : List Ent} {ws : List Wq} (h : WsOk zs es ws) (e : Ent) (ho : openB e = true) {j : Nat} {q : Wq} (hq : ws[j]? = some q) (hs : sameFace q.1 (faceE e.p e.x zs) = true) (v' : Value) :
    WsOk zs (es ++ [e]) (ws.set j (q.1, v', q.2.2 ++ [es.length])) := by
  have hqm := List.mem_of_getElem? hq
  refine ⟨fun p hp => ?_, keys_set h.keys hq _ _, fun f hw => ?_⟩
  · rcases mem_set_of hp with rfl | hp
    · exact h.fwf q hqm
    · exact h.fwf p hp
  · rw [wl_snoc, ho, Bool.true_and, ← h.get f hw, wsGet_set h.keys hq]
    rw [← sf_same hs]
    cases h3 : sameFace q.1 f with
    | false => simp
    | true =>
      rw [wsGet_at h.keys hq h3]
      rfl
/-- A side shut that does not wait any more: its list without it. -/
theorem WsOk.shut {zs : List ByteArray} {es es' : List Ent} {ws : List Wq} (h : WsOk zs es ws) {j i k : Nat} {q : Wq} (hq : ws[j]? = some q) (hi : q.2.2[i]? = some k) (hn : q.2.2.Nodup) (v' : Value)
    (hes : ∀ f, f.wf → wl zs es' f = (wl zs es f).filter (· != k)) (hother : ∀ f, f.wf → sameFace q.1 f = false → k ∉ wl zs es f) : WsOk zs es' (ws.set j (q.1, v', q.2.2.eraseIdx i)) := by
  have hqm := List.mem_of_getElem? hq
  refine ⟨fun p hp => ?_, keys_set h.keys hq _ _, fun f hw => ?_⟩
  · rcases mem_set_of hp with rfl | hp
    · exact h.fwf q hqm
    · exact h.fwf p hp
  · rw [hes f hw, wsGet_set h.keys hq]
    cases h3 : sameFace q.1 f with
    | false => rw [if_neg (by simp), h.get f hw, filter_ne_self (hother f hw h3)]
    | true => rw [if_pos rfl, ← h.get f hw, wsGet_at h.keys hq h3, filter_ne_erase hn hi]
end Go.Proofs.YtphabkaiheplpaaGreatDoor
