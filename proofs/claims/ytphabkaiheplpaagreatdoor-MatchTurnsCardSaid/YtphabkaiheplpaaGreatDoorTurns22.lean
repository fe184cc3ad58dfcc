/- Joined texts of this proof: BkA. -/
import Derived.Test.YtphabkaiheplpaaGreatDoorTurns20
import Derived.Test.YtphabkaiheplpaaGreatDoorTurns21
/- A book's map of who waits: an entry found or made, appended to, stored back. -/
set_option linter.unusedVariables false
set_option linter.unusedSimpArgs false
set_option maxRecDepth 100000
namespace Go.Proofs.YtphabkaiheplpaaGreatDoor
open Go.RowKit Go.Shelf Go.Maps
open Go.ChangeMaps (setBlock)

/-- The region that a piece of code begins with. -/
def headR : Code → Option Nat
  | .region k _ _ => some k
  | .seq a _ => headR a
  | _ => none
/-- The code from a region on, to the end of its sequence. -/
def fromR (n : Nat) : Code → Option Code
  | .seq a b => if headR a = some n then some (.seq a b) else match fromR n a with
    | some c => some c
    | none => fromR n b
  | .block _ c => fromR n c
  | .scope c => fromR n c
  | .loop c => fromR n c
  | .cond _ a b => match fromR n a with
    | some c => some c
    | none => fromR n b
  | _ => none
def apartV (p q : Wq) : Prop := p.2.1.ownBlock = none ∨ p.2.1.ownBlock ≠ q.2.1.ownBlock
theorem apartV_symm {p q : Wq} (h : apartV p q) : apartV q p := by
  unfold apartV at *
  rcases h with h | h
  · cases hq : q.2.1.ownBlock with
    | none => exact .inl rfl
    | some g => right; rw [h]; simp
  · exact .inr (Ne.symm h)
theorem pairwise_set {α : Type} {R : α → α → Prop} (hs : ∀ a b, R a b → R b a) {l : List α} (h : l.Pairwise R) {j : Nat} {x : α} (hx : ∀ i a, i ≠ j → l[i]? = some a → R x a) : (l.set j x).Pairwise R := by
  rw [List.pairwise_iff_getElem] at h ⊢
  intro i k hi hk hik
  rw [List.getElem_set, List.getElem_set]
  rw [List.length_set] at hi hk
  by_cases h1 : j = i
  · rw [if_pos h1, if_neg (by omega)]
    exact hx k _ (by omega) (List.getElem?_eq_getElem hk)
  · rw [if_neg h1]
    by_cases h2 : j = k
    · rw [if_pos h2]
      exact hs _ _ (hx i _ (by omega) (List.getElem?_eq_getElem hi))
    · rw [if_neg h2]
      exact h i k hi hk hik
theorem mem_set_at {α : Type} {l : List α} {j : Nat} {x y : α} (h : y ∈ l.set j x) : y = x ∨ ∃ i, i ≠ j ∧ l[i]? = some y := by
  obtain ⟨i, hi, e⟩ := List.getElem_of_mem h
  rw [List.getElem_set] at e
  rw [List.length_set] at hi
  by_cases hj : j = i
  · rw [if_pos hj] at e; exact .inl e.symm
  · rw [if_neg hj] at e; exact .inr ⟨i, Ne.symm hj, by rw [List.getElem?_eq_getElem hi, e]⟩
/-- The rows behind a change of one of them. -/
theorem WsR.change {F : Nat → Prop} {B : Nat} {W W2 : World} {ws : List Wq} (h : WsR F B W ws) {j : Nat} {q : Wq} (hq : ws[j]? = some q) (hs : W.grownBy W2 q.2.1.ownBlock) (v' : Value) (l' : List Nat) (hown : W2.ownsRow 0 3 1 v' l'.length (l'.map natV)) (hnew : OrNew W q.2.1 v') (hB : B ≤ W.heap.size) : WsR F B W2 (ws.set j (q.1, v', l')) := by
  have hqm := List.mem_of_getElem? hq
  have hap : ∀ i a, i ≠ j → ws[i]? = some a → apartV a q := fun i a hi ha => by
    have h1 := List.pairwise_iff_getElem.1 h.rD
    obtain ⟨l1, e1⟩ := List.getElem?_eq_some_iff.1 ha
    obtain ⟨l2, e2⟩ := List.getElem?_eq_some_iff.1 hq
    rcases Nat.lt_or_ge i j with hij | hij
    · have := h1 i j l1 l2 hij
      rw [e1, e2] at this
      exact this
    · have := h1 j i l2 l1 (by omega)
      rw [e1, e2] at this
      exact apartV_symm this
  refine ⟨fun p hp => ?_, pairwise_set (R := apartV) (fun _ _ => apartV_symm) h.rD (fun i a hi ha => ?_), fun p hp g hg => ?_⟩
  · rcases mem_set_at hp with rfl | ⟨i, hi, ha⟩
    · exact hown
    · exact (h.rW p (List.mem_of_getElem? ha)).kept hs (hap i p hi ha)
  · have ha2 := hap i a hi ha
    rcases hnew with hn | ⟨g, hn, hg⟩
    · show v'.ownBlock = none ∨ v'.ownBlock ≠ a.2.1.ownBlock
      rw [hn]
      exact apartV_symm ha2
    · right
      show v'.ownBlock ≠ a.2.1.ownBlock
      intro e
      have := row_lt (h.rW a (List.mem_of_getElem? ha)) (g := g) (by rw [← e, hn])
      omega
  · rcases mem_set_at hp with rfl | ⟨i, hi, ha⟩
    · rcases hnew with hn | ⟨g', hn, hg'⟩
      · exact h.iV q hqm g (by rw [← hn]; exact hg)
      · have e : g' = g := by
          have h3 : v'.ownBlock = some g := hg
          rw [hn] at h3
          exact Option.some.inj h3
        subst e
        exact .inr (by omega)
    · exact h.iV p (List.mem_of_getElem? ha) g hg
theorem WsR.more {F : Nat → Prop} {B : Nat} {W W2 : World} {ws : List Wq} (h : WsR F B W ws) (hs : W.grownBy W2 none) (f : Fc) (v' : Value) (l' : List Nat) (hown : W2.ownsRow 0 3 1 v' l'.length (l'.map natV)) (hnew : OrNew W (.slice none 0 0) v') (hB : B ≤ W.heap.size) : WsR F B W2 (ws ++ [(f, v', l')]) := by
  refine ⟨fun p hp => ?_, ?_, fun p hp g hg => ?_⟩
  · rcases List.mem_append.1 hp with hp | hp
    · exact ow_none (h.rW p hp) hs
    · simp at hp; rw [hp]; exact hown
  · rw [List.pairwise_append]
    refine ⟨h.rD, by simp, fun p hp q hq => ?_⟩
    simp at hq
    rw [hq]
    rcases hnew with hn | ⟨g, hn, hg⟩
    · have hn2 : v'.ownBlock = none := hn
      exact apartV_symm (.inl hn2 : apartV (f, v', l') p)
    · right
      show p.2.1.ownBlock ≠ v'.ownBlock
      intro e
      have := row_lt (h.rW p hp) (g := g) (by rw [e, hn])
      omega
  · rcases List.mem_append.1 hp with hp | hp
    · exact h.iV p hp g hg
    · simp at hp
      rw [hp] at hg
      rcases hnew with hn | ⟨g', hn, hg'⟩
      · have hg2 : v'.ownBlock = some g := hg
        rw [hn] at hg2; cases hg2
      · have hg2 : v'.ownBlock = some g := hg
        rw [hn] at hg2
        obtain rfl := Option.some.inj hg2
        exact .inr (by omega)
/-- 'b.waits[own] = append(b.waits[own], n)'. -/
theorem wait_put {F : Nat → Prop} {w W1 : World} {b : Nat} {tv ev pv : Value} {m1 m2 : Nat} {ws : List Wq} {C : Array Value} {zs : List ByteArray} {nm : List (Value × Value)} {es : List Ent} {ex : List Ent} {ps : List Pr}
    (HM : BkM F w W1 b tv ev pv m1 m2 (ws.map kwF) C zs nm ex ps) (HR : WsR F w.heap.size W1 ws) (HW : WsOk zs es ws) (e : Ent) (ho : openB e = true) (hf : (faceE e.p e.x zs).wf) :
    ∃ (o1 : Obj) (v1 : Value) (st : Int) (l : List Nat) (kv1 : List (Value × Value)), (Instr.mapEntry 78 (.map (some m2)) (keyF (faceE e.p e.x zs))).run Tryz.prog W1 = .ok (.tuple #[v1, .int .i64 st]) (setBlock W1 m2 o1) ∧
      (setBlock W1 m2 o1).ownsRow 0 3 1 v1 l.length (l.map natV) ∧ l.length ≤ es.length ∧ BkM F w (setBlock W1 m2 o1) b tv ev pv m1 m2 kv1 C zs nm ex ps ∧
      ∀ (W2 : World) (v' : Value), (setBlock W1 m2 o1).grownBy W2 v1.ownBlock → W2.ownsRow 0 3 1 v' (l.length + 1) (l.map natV ++ [natV es.length]) → OrNew (setBlock W1 m2 o1) v1 v' →
        ∃ o2 ws', (Instr.entryStore 78 (.map (some m2)) (.int .i64 st) v').run Tryz.prog W2 = .ok () (setBlock W2 m2 o2) ∧ BkM F w (setBlock W2 m2 o2) b tv ev pv m1 m2 (ws'.map kwF) C zs nm ex ps ∧ WsR F w.heap.size (setBlock W2 m2 o2) ws' ∧ WsOk zs (es ++ [e]) ws' := by
  obtain ⟨o1, v1, st, kv1, hrun, hm1, hcase⟩ := entry_tells (z := .slice none 0 0) HM.mW face_law Tryz.underlying78 (by kernel_rfl) (ws_keys HW) (face_keyOf _ hf)
  have hsb : W1.grownBy (setBlock W1 m2 o1) (some m2) := gb_block W1 m2 o1
  have HR1 : WsR F w.heap.size (setBlock W1 m2 o1) ws := HR.map_ HM.mW hsb
  have HM1 := HM.waits o1 kv1 hm1
  have hB : w.heap.size ≤ (setBlock W1 m2 o1).heap.size := HM1.low.size
  have hln : ∀ (l : List Nat), (l.map natV ++ [natV es.length]) = (l ++ [es.length]).map natV := fun l => by simp
  have hobj : ∀ {v : Value} {n : Nat} {xs : List Value}, (setBlock W1 m2 o1).ownsRow 0 3 1 v n xs → ∀ g, v.ownBlock = some g → g ≠ m2 := fun hr g hg e => by
    obtain ⟨cur, hc⟩ := row_obj hr hg
    obtain ⟨es2, cl, hmm, _⟩ := HM1.mW
    rw [e, hmm] at hc
    injection hc with hc
    cases hc
  rcases hcase with ⟨hab, rfl, hst⟩ | ⟨j, hj, hst⟩
  · have hab2 := face_absent HW.fwf hf hab
    refine ⟨o1, _, st, [], kv1, hrun, ow_nil _ _ _ _, Nat.zero_le _, HM1, fun W2 v' hs hown hnew => ?_⟩
    have hs0 : (setBlock W1 m2 o1).grownBy W2 none := hs
    obtain ⟨o2, hr2, hm2⟩ := hst W2 v' (hs0.block m2 HM1.mW.lt (by simp))
    have HM2 := HM1.introw hs0 (fun g e => by cases e)
    have HR2 := HR1.more hs0 (faceE e.p e.x zs) v' [es.length] (by simpa using hown) hnew hB
    have hm3 : MapIs (setBlock W2 m2 o2) m2 ((ws ++ [(faceE e.p e.x zs, v', [es.length])]).map kwF) := by
      rw [List.map_append]
      exact hm2
    exact ⟨o2, _, hr2, HM2.waits o2 _ hm3, HR2.map_ HM2.mW (gb_block W2 m2 o2), HW.snoc_new e ho hf hab2 v'⟩
  · obtain ⟨q, hq, hsf, rfl⟩ := face_present HW.fwf hf hj
    have hqm := List.mem_of_getElem? hq
    have hrow := HR1.rW q hqm
    have hlen : q.2.2.length ≤ es.length := by
      have h1 := wsGet_at HW.keys hq (f := q.1) (sf_self _)
      rw [HW.get _ (HW.fwf q hqm)] at h1
      rw [← h1]
      exact wl_le _ _ _
    refine ⟨o1, _, st, q.2.2, kv1, hrun, hrow, hlen, HM1, fun W2 v' hs hown hnew => ?_⟩
    obtain ⟨o2, hr2, hm2⟩ := hst W2 v' (hs.block m2 HM1.mW.lt (fun e => hobj hrow m2 e.symm rfl))
    have HM2 := HM1.introw hs (fun g hg => ⟨HR1.iV q hqm g hg, row_obj hrow hg⟩)
    have HR2 := HR1.change hq hs v' (q.2.2 ++ [es.length]) (by rw [← hln]; simpa using hown) hnew hB
    have hm3 : MapIs (setBlock W2 m2 o2) m2 ((ws.set j (q.1, v', q.2.2 ++ [es.length])).map kwF) := by
      rw [← kw_set HW.fwf hf hq hsf]
      exact hm2
    exact ⟨o2, _, hr2, HM2.waits o2 _ hm3, HR2.map_ HM2.mW (gb_block W2 m2 o2), HW.snoc_old e ho hq hsf v'⟩
end Go.Proofs.YtphabkaiheplpaaGreatDoor
