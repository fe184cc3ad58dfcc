/- Joined texts of this proof: BkD. -/
import Derived.Test.YtphabkaiheplpaaGreatDoorTurns23
/- slices.Delete of one number of a row of one's own; a row's cells set; a look-up of who waits. -/
set_option linter.unusedVariables false
set_option linter.unusedSimpArgs false
set_option maxRecDepth 100000
namespace Go.Proofs.YtphabkaiheplpaaGreatDoor
open Go.RowKit Go.Shelf Go.Maps
open Go.ChangeMaps (setBlock)

def ovw (xs : List Value) : Nat → List Value → List Value
  | _, [] => xs
  | o, v :: r => ovw (xs.set o v) (o + 1) r
theorem ovw_length : ∀ (vs : List Value) (o : Nat) (xs : List Value), (ovw xs o vs).length = xs.length
  | [], _, _ => rfl
  | v :: r, o, xs => by unfold ovw; rw [ovw_length r]; simp
theorem ovw_at : ∀ (vs : List Value) (o : Nat) (xs : List Value) (j : Nat), o + vs.length ≤ xs.length → (ovw xs o vs)[j]? = if o ≤ j ∧ j < o + vs.length then vs[j - o]? else xs[j]?
  | [], o, xs, j, _ => by
    unfold ovw
    rw [if_neg (fun h => by have h2 := h.2; simp only [List.length_nil] at h2; omega)]
  | v :: r, o, xs, j, h => by
    unfold ovw
    simp only [List.length_cons] at h ⊢
    rw [ovw_at r (o + 1) (xs.set o v) j (by simp; omega)]
    by_cases h1 : o = j
    · subst h1
      rw [if_neg (by omega), if_pos (by omega), Nat.sub_self, List.getElem?_set_self (by omega)]
      rfl
    · by_cases h2 : o + 1 ≤ j ∧ j < o + 1 + r.length
      · rw [if_pos h2, if_pos (by omega), show j - o = (j - (o + 1)) + 1 by omega, List.getElem?_cons_succ]
      · rw [if_neg h2, if_neg (by omega), List.getElem?_set_ne h1]
theorem ovw_all (xs vs : List Value) (h : vs.length = xs.length) : ovw xs 0 vs = vs := by
  apply List.ext_getElem?
  intro j
  rw [ovw_at vs 0 xs j (by omega)]
  by_cases hj : j < vs.length
  · rw [if_pos ⟨Nat.zero_le _, by omega⟩, Nat.sub_zero]
  · rw [if_neg (by omega), List.getElem?_eq_none (by omega), List.getElem?_eq_none (by omega)]
theorem gb_trans {W W1 W2 : World} {g : Nat} (h1 : W.grownBy W1 (some g)) (h2 : W1.grownBy W2 (some g)) : W.grownBy W2 (some g) :=
  ⟨h2.os.trans h1.os, h2.tape.trans h1.tape, h2.output.trans h1.output, Nat.le_trans h1.size h2.size, fun k hk hne => (h2.block k (Nat.lt_of_lt_of_le hk h1.size) hne).trans (h1.block k hk hne)⟩
theorem stored_cells {base : Nat} {e : TypeId} {size n cap g : Nat} : ∀ (vs : List Value) (o : Nat) (w : World) (xs : List Value), w.ownsRow base e size (.slice (some ⟨g, 0, none⟩) n cap) n xs →
    (w.setCells g o vs).ownsRow base e size (.slice (some ⟨g, 0, none⟩) n cap) n (ovw xs o vs) ∧ w.grownBy (w.setCells g o vs) (some g)
  | [], o, w, xs, h => ⟨h, ⟨rfl, rfl, rfl, Nat.le_refl _, fun _ _ _ => rfl⟩⟩
  | v :: r, o, w, xs, h => by
    have h1 := h.stored o v
    have h2 := stored_cells r (o + 1) (w.setCell ⟨g, o, none⟩ v) (xs.set o v) h1.1
    exact ⟨h2.1, gb_trans h1.2 h2.2⟩
theorem own_cut {W : World} {base : Nat} {e : TypeId} {size n cap : Nat} {g : Nat} {xs : List Value} (h : W.ownsRow base e size (.slice (some ⟨g, 0, none⟩) n cap) n xs) {m : Nat} (hm : m ≤ n) : W.ownsRow base e size (.slice (some ⟨g, 0, none⟩) m cap) m (xs.take (m * size)) := by
  rcases h.2 with ⟨h', _⟩ | ⟨g', cap', cur, h', hb, hg, hnc, hcm, hcs, htake⟩
  · simp at h'
  · simp only [Value.slice.injEq, Option.some.injEq, Addr.mk.injEq, and_true, true_and] at h'
    obtain ⟨rfl, rfl⟩ := h'
    have hle : m * size ≤ n * size := Nat.mul_le_mul_right _ hm
    refine ⟨by rw [List.length_take, h.1]; omega, .inr ⟨g, cap, cur, rfl, hb, hg, by omega, hcm, hcs, ?_⟩⟩
    rw [← htake, List.take_take, Nat.min_eq_left hle]
theorem own_drewN {W : World} {base : Nat} {e : TypeId} {size n : Nat} {v : Value} {xs : List Value} (h : W.ownsRow base e size v n xs) (q : Nat) : (W.drewN q).ownsRow base e size v n xs := h
/-- slices.Delete(v, i, i + 1). -/
theorem delete_row {W : World} {v : Value} {l : List Nat} {i : Nat} (h : W.ownsRow 0 3 1 v l.length (l.map natV)) (hi : i < l.length) :
    Calls Tryz.prog 33 #[v, .int .i64 (i : Int), .int .i64 ((i : Int) + 1)] W fun e W' => ∃ v', e = .returned v' ∧ v'.ownBlock = v.ownBlock ∧ W.grownBy W' v.ownBlock ∧ W'.ownsRow 0 3 1 v' (l.eraseIdx i).length ((l.eraseIdx i).map natV) := by
  rcases h.2 with ⟨_, h0⟩ | ⟨g, cap, cur, rfl, hb, hg, hnc, hcm, hcs, htake⟩
  · omega
  · have hcell : ∀ j, j < (l.map (fun k : Nat => (k : Int))).length → W.cell? ⟨g, 0 + j, none⟩ = some (.int .i64 ((l.map (fun k : Nat => (k : Int))).getD j 0)) := fun j hj => by
      rw [Nat.zero_add, h.cellAt j (by simpa using hj), List.getElem?_map, List.getD_eq_getElem?_getD, List.getElem?_map]
      rw [List.length_map] at hj
      rw [List.getElem?_eq_getElem hj]
      rfl
    have hc := Tryz.slices_Delete_int_cells g 0 l.length cap i (i + 1) (l.map (fun k : Nat => (k : Int))) W (by simp) hnc (by unfold maxLen at hcm; omega) (by omega) (by omega) hcell (fun j hj => h.frozenAt (0 + j))
    rw [show ((i + 1 : Nat) : Int) = (i : Int) + 1 by omega] at hc
    refine hc.mono ?_
    rintro e W' ⟨rfl, q, rfl⟩
    have hst := stored_cells (g := g) ((((l.map (fun k : Nat => (k : Int))).take l.length).take i ++ ((l.map (fun k : Nat => (k : Int))).take l.length).drop (i + 1) ++ List.replicate (i + 1 - i) 0).map (Value.int .i64)) 0 (W.drewN q) (l.map natV) (own_drewN h q)
    have hlen : ((((l.map (fun k : Nat => (k : Int))).take l.length).take i ++ ((l.map (fun k : Nat => (k : Int))).take l.length).drop (i + 1) ++ List.replicate (i + 1 - i) 0).map (Value.int .i64)).length = (l.map natV).length := by
      simp
      omega
    rw [ovw_all _ _ hlen] at hst
    have hcut := own_cut hst.1 (m := l.length - (i + 1 - i)) (by omega)
    have hel : (l.eraseIdx i).length = l.length - (i + 1 - i) := by rw [List.length_eraseIdx, if_pos hi]; omega
    refine ⟨_, rfl, rfl, ⟨hst.2.os, hst.2.tape, hst.2.output, hst.2.size, hst.2.block⟩, ?_⟩
    rw [hel]
    have e1 : List.take ((l.length - (i + 1 - i)) * 1) ((((l.map (fun k : Nat => (k : Int))).take l.length).take i ++ ((l.map (fun k : Nat => (k : Int))).take l.length).drop (i + 1) ++ List.replicate (i + 1 - i) 0).map (Value.int .i64)) = (l.eraseIdx i).map natV := by
      rw [List.take_of_length_le (l := l.map (fun k : Nat => (k : Int))) (by simp), List.map_append, List.take_left' (by simp; omega), List.eraseIdx_eq_take_drop_succ, List.map_append, List.map_append, ← List.map_take, ← List.map_drop, List.map_map, List.map_map]
      rfl
    rw [← e1]
    exact hcut
/-- A look-up of a face that stands among the keys. -/
theorem wait_get {W : World} {m2 : Nat} {ws : List Wq} {zs : List ByteArray} {es : List Ent} (hm : MapIs W m2 (ws.map kwF)) (HW : WsOk zs es ws) {f : Fc} (hf : f.wf) {j : Nat} {q : Wq} (hq : ws[j]? = some q) (hs : sameFace q.1 f = true) :
    (Instr.lookup 78 (.map (some m2)) (keyF f) false).run Tryz.prog W = .ok q.2.1 W := by
  rcases lookup_tells (z := .slice none 0 0) hm face_law Tryz.underlying78 (by kernel_rfl) (ws_keys HW) (face_keyOf f hf) false with ⟨h1, _⟩ | ⟨j', v, h1, h2⟩
  · have := face_absent HW.fwf hf h1 q (List.mem_of_getElem? hq)
    rw [hs] at this
    cases this
  · obtain ⟨q', hq', hs', rfl⟩ := face_present HW.fwf hf h1
    have e : j' = j := by
      have hp := List.pairwise_iff_getElem.1 HW.keys
      obtain ⟨l1, e1⟩ := List.getElem?_eq_some_iff.1 hq
      obtain ⟨l2, e2⟩ := List.getElem?_eq_some_iff.1 hq'
      have hss : sameFace q.1 q'.1 = true := by rw [sf_same hs, sameFace_comm]; exact hs'
      rcases Nat.lt_trichotomy j' j with h | h | h
      · have := hp j' j l2 l1 h
        rw [e1, e2, sameFace_comm, hss] at this
        cases this
      · exact h
      · have := hp j j' l1 l2 h
        rw [e1, e2, hss] at this
        cases this
    subst e
    rw [hq] at hq'
    obtain rfl := Option.some.inj hq'
    simpa using h2
/-- A look-up of a face that does not stand there. -/
theorem wait_none {W : World} {m2 : Nat} {ws : List Wq} {zs : List ByteArray} {es : List Ent} (hm : MapIs W m2 (ws.map kwF)) (HW : WsOk zs es ws) {f : Fc} (hf : f.wf) (ha : ∀ q ∈ ws, sameFace q.1 f = false) :
    (Instr.lookup 78 (.map (some m2)) (keyF f) false).run Tryz.prog W = .ok (.slice none 0 0) W := by
  rcases lookup_tells (z := .slice none 0 0) hm face_law Tryz.underlying78 (by kernel_rfl) (ws_keys HW) (face_keyOf f hf) false with ⟨_, h2⟩ | ⟨j', v, h1, _⟩
  · simpa using h2
  · obtain ⟨q', hq', hs', rfl⟩ := face_present HW.fwf hf h1
    have := ha q' (List.mem_of_getElem? hq')
    rw [hs'] at this
    cases this
/-- 'b.waits[other] = v'' behind a Delete. -/
theorem wait_del {F : Nat → Prop} {w W1 W2 : World} {b : Nat} {tv ev pv : Value} {m1 m2 : Nat} {ws : List Wq} {C : Array Value} {zs : List ByteArray} {nm : List (Value × Value)} {es : List Ent} {ex : List Ent} {ps : List Pr}
    (HM : BkM F w W1 b tv ev pv m1 m2 (ws.map kwF) C zs nm ex ps) (HR : WsR F w.heap.size W1 ws) (HW : WsOk zs es ws) {f : Fc} (hf : f.wf) {j : Nat} {q : Wq} (hq : ws[j]? = some q) (hsf : sameFace q.1 f = true) {i : Nat} {v' : Value}
    (hs : W1.grownBy W2 q.2.1.ownBlock) (hv : v'.ownBlock = q.2.1.ownBlock) (hown : W2.ownsRow 0 3 1 v' (q.2.2.eraseIdx i).length ((q.2.2.eraseIdx i).map natV)) :
    BkM F w W2 b tv ev pv m1 m2 (ws.map kwF) C zs nm ex ps ∧ ∃ o, (Instr.mapUpdate 78 (.map (some m2)) (keyF f) v').run Tryz.prog W2 = .ok () (setBlock W2 m2 o) ∧ BkM F w (setBlock W2 m2 o) b tv ev pv m1 m2 ((ws.set j (q.1, v', q.2.2.eraseIdx i)).map kwF) C zs nm ex ps ∧ WsR F w.heap.size (setBlock W2 m2 o) (ws.set j (q.1, v', q.2.2.eraseIdx i)) := by
  have hqm := List.mem_of_getElem? hq
  have hrow := HR.rW q hqm
  have HM2 := HM.introw hs (fun g hg => ⟨HR.iV q hqm g hg, row_obj hrow hg⟩)
  have HR2 := HR.change hq hs v' (q.2.2.eraseIdx i) hown (.inl hv) HM.low.size
  refine ⟨HM2, ?_⟩
  obtain ⟨o, hr, hc⟩ := store_leaves (val := v') HM2.mW face_law Tryz.underlying78 (ws_keys HW) (face_keyOf f hf)
  rcases hc with ⟨h1, _⟩ | ⟨j', v, h1, h2⟩
  · have := face_absent HW.fwf hf h1 q hqm
    rw [hsf] at this
    cases this
  · have e : j' = j := by
      obtain ⟨q', hq', hs', _⟩ := face_present HW.fwf hf h1
      have hp := List.pairwise_iff_getElem.1 HW.keys
      obtain ⟨l1, e1⟩ := List.getElem?_eq_some_iff.1 hq
      obtain ⟨l2, e2⟩ := List.getElem?_eq_some_iff.1 hq'
      have hss : sameFace q.1 q'.1 = true := by rw [sf_same hsf, sameFace_comm]; exact hs'
      rcases Nat.lt_trichotomy j' j with h | h | h
      · have := hp j' j l2 l1 h
        rw [e1, e2, sameFace_comm, hss] at this
        cases this
      · exact h
      · have := hp j j' l1 l2 h
        rw [e1, e2, hss] at this
        cases this
    subst e
    have hm3 : MapIs (setBlock W2 m2 o) m2 ((ws.set j' (q.1, v', q.2.2.eraseIdx i)).map kwF) := by
      rw [← kw_set HW.fwf hf hq hsf]
      exact h2
    exact ⟨o, hr, HM2.waits o _ hm3, HR2.map_ HM2.mW (gb_block W2 m2 o)⟩
end Go.Proofs.YtphabkaiheplpaaGreatDoor
