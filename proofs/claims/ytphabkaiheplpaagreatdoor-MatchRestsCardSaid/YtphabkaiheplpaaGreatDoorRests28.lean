/- Joined texts of this proof: BkCn. -/
import Derived.Test.YtphabkaiheplpaaGreatDoorRests24
import Derived.Test.YtphabkaiheplpaaGreatDoorRests27
/- Words for (*match.Book).Cancel: flags of entries and pairs, in plain Lean and in memory. -/
set_option linter.unusedVariables false
set_option linter.unusedSimpArgs false
set_option maxRecDepth 100000
namespace Go.Proofs.YtphabkaiheplpaaGreatDoor
open Go.RowKit Go.Shelf Go.Maps
open Go.ChangeMaps (setBlock)

/-- Each pair's two sides are marked as being in a pair. -/
def PairsIn (es : List Ent) (ps : List Pr) : Prop := ∀ m, m < ps.length → 0 ≤ (es.getD (ps.getD m pr0).d ent0).pair ∧ 0 ≤ (es.getD (ps.getD m pr0).r ent0).pair
/-- What Cancel does with the side of number i: the error's number, whether it is gone, the book behind it. -/
def cancelAt (es : List Ent) (ps : List Pr) (i : Nat) : Int × Bool × List Ent × List Pr :=
  if (es.getD i ent0).gone then (21, false, es, ps)
  else if (es.getD i ent0).pair < 0 then (0, true, es.set i { es.getD i ent0 with gone := true }, ps)
  else
    let es1 := es.set i { es.getD i ent0 with asked := true }
    let m := (es.getD i ent0).pair.toNat
    let q := ps.getD m pr0
    if (es1.getD q.d ent0).asked && (es1.getD q.r ent0).asked then
      let es2 := es1.set q.d { es1.getD q.d ent0 with gone := true }
      (0, true, es2.set q.r { es2.getD q.r ent0 with gone := true }, ps.set m { q with gone := true })
    else (0, false, es1, ps)
theorem entC_gone (e : Ent) (v : Bool) : (entC e).set 30 (.bool v) = entC { e with gone := v } := by kernel_rfl
theorem entC_asked (e : Ent) (v : Bool) : (entC e).set 29 (.bool v) = entC { e with asked := v } := by kernel_rfl
theorem prC_gone (q : Pr) (v : Bool) : (prC q).set 3 (.bool v) = prC { q with gone := v } := by kernel_rfl
theorem prs_cell (ps : List Pr) (k : Nat) (v : Value) (hk : k < 4) : ∀ (d : Nat) (q' : Pr), d < ps.length → (prC (ps.getD d pr0)).set k v = prC q' → (ps.flatMap prC).set (d * 4 + k) v = (ps.set d q').flatMap prC := by
  induction ps with
  | nil => intro d e' h; cases h
  | cons e r ih =>
    intro d e' h he
    cases d with
    | zero =>
      have he2 : (prC e).set k v = prC e' := he
      rw [List.flatMap_cons, List.set_append_left _ _ (by rw [prC_length]; omega), Nat.zero_mul, Nat.zero_add, he2, List.set_cons_zero, List.flatMap_cons]
    | succ d =>
      rw [List.flatMap_cons, List.set_append_right _ _ (by rw [prC_length]; omega), prC_length, show (d + 1) * 4 + k - 4 = d * 4 + k by omega, ih d e' (by simpa using h) he, List.set_cons_succ, List.flatMap_cons]
/-- One cell of one pair. -/
theorem BkM.prCell {F : Nat → Prop} {w W : World} {b n : Nat} {tv ev : Value} {m1 m2 pg pc : Nat} {kw : List (Value × Value)} {C : Array Value} {zs : List ByteArray} {nm : List (Value × Value)} {es : List Ent} {ps : List Pr}
    (h : BkM F w W b tv ev (.slice (some ⟨pg, 0, none⟩) n pc) m1 m2 kw C zs nm es ps) (hn : ps.length = n) {d k : Nat} (hd : d < ps.length) (hk : k < 4) (v : Value) (q' : Pr) (he : (prC (ps.getD d pr0)).set k v = prC q') :
    BkM F w (W.setCell ⟨pg, d * 4 + k, none⟩ v) b tv ev (.slice (some ⟨pg, 0, none⟩) n pc) m1 m2 kw C zs nm es (ps.set d q') ∧ W.grownBy (W.setCell ⟨pg, d * 4 + k, none⟩ v) (some pg) := by
  subst hn
  have hs := h.rP.stored (d * 4 + k) v
  rw [prs_cell ps k v hk d q' hd he] at hs
  refine ⟨h.pairs hs.2 _ _ ?_ h.iP, hs.2⟩
  rw [List.length_set]; exact hs.1
theorem prCell_facts {F : Nat → Prop} {w W : World} {b n : Nat} {tv ev : Value} {m1 m2 pg pc : Nat} {kw : List (Value × Value)} {C : Array Value} {zs : List ByteArray} {nm : List (Value × Value)} {es : List Ent} {ps : List Pr}
    (h : BkM F w W b tv ev (.slice (some ⟨pg, 0, none⟩) n pc) m1 m2 kw C zs nm es ps) (hn : ps.length = n) {d k : Nat} (hd : d < ps.length) (hk : k < 4) : W.cell? ⟨pg, d * 4 + k, none⟩ = (prC (ps.getD d pr0))[k]? ∧ W.frozen? ⟨pg, d * 4 + k, none⟩ = false := by
  subst hn
  exact ⟨by rw [h.rP.cellAt (d * 4 + k) (by omega), prs_at ps d k hd hk], h.rP.frozenAt _⟩
/-- A book's standing under a side with other flags. -/
theorem StOk.flag {zs : List ByteArray} {es : List Ent} {ps : List Pr} (h : StOk zs es ps) {d : Nat} (hd : d < es.length) {e : Ent} (hp : e.p = (es.getD d ent0).p) (hx : e.x = (es.getD d ent0).x) (hl : e.lx = (es.getD d ent0).lx) (hpr : e.pair = (es.getD d ent0).pair) : StOk zs (es.set d e) ps := by
  refine ⟨fun e' he' => ?_, fun q hq => ?_, ?_⟩
  · rcases mem_set_of he' with rfl | he'
    · rw [hp, hx, hl, hpr]; exact h.ent _ (getD_mem hd)
    · exact h.ent e' he'
  · rw [List.length_set]; exact h.prs q hq
  · have hn := List.pairwise_iff_getElem.1 h.nodup
    rw [List.pairwise_iff_getElem]
    intro i j hi hj hij
    have hi2 : i < es.length := by simpa using hi
    have hj2 : j < es.length := by simpa using hj
    have key : ∀ k (hk : k < (es.set d e).length) (hk2 : k < es.length), ((es.set d e)[k]).p = (es[k]).p ∧ ((es.set d e)[k]).x = (es[k]).x := fun k hk hk2 => by
      rw [List.getElem_set]
      by_cases hdk : d = k
      · subst hdk
        rw [if_pos rfl, hp, hx, List.getD_eq_getElem?_getD, List.getElem?_eq_getElem hk2]
        exact ⟨rfl, rfl⟩
      · rw [if_neg hdk]
        exact ⟨rfl, rfl⟩
    rw [(key i hi hi2).1, (key j hj hj2).1, (key i hi hi2).2, (key j hj hj2).2]
    exact hn i j hi2 hj2 hij
theorem StOk.prgone {zs : List ByteArray} {es : List Ent} {ps : List Pr} (h : StOk zs es ps) {m : Nat} (hm : m < ps.length) (v : Bool) : StOk zs es (ps.set m { ps.getD m pr0 with gone := v }) := by
  refine ⟨fun e he => ?_, fun q hq => ?_, h.nodup⟩
  · rw [List.length_set]; exact h.ent e he
  · rcases mem_set_of hq with rfl | hq
    · have : ps.getD m pr0 ∈ ps := by rw [List.getD_eq_getElem?_getD, List.getElem?_eq_getElem hm]; exact List.getElem_mem hm
      have h2 := h.prs _ this
      exact ⟨h2.1, h2.2.1, h2.2.2⟩
    · exact h.prs q hq
theorem WsOk.keep {zs : List ByteArray} {es es' : List Ent} {ws : List Wq} (h : WsOk zs es ws) (hw : ∀ f, wl zs es' f = wl zs es f) : WsOk zs es' ws := ⟨h.fwf, h.keys, fun f hf => by rw [hw f]; exact h.get f hf⟩
theorem nmOf_flag {es : List Ent} {d : Nat} (hd : d < es.length) {e : Ent} (hp : e.p = (es.getD d ent0).p) (hx : e.x = (es.getD d ent0).x) : nmOf (es.set d e) = nmOf es := nmOf_set hd e hp hx
/-- What Cancel answers and leaves. -/
def CanOut (F : Nat → Prop) (W : World) (b : Nat) (zs : List ByteArray) (tol : Int) (es : List Ent) (ps : List Pr) (p : Int) (r : ByteArray) (e : Ending) (w' : World) : Prop :=
  (twiceB es p r = false ∧ (∃ E : GErr, e = .returned (.tuple #[.bool false, E.val]) ∧ E.num = 10 ∧ E ≠ .nil ∧ E.plain = true) ∧ BkI F w' b zs tol es ps ∧ Below W.heap.size W w') ∨
  (twiceB es p r = true ∧ ∃ i, i < es.length ∧ (es.getD i ent0).p = p ∧ (es.getD i ent0).x.ref = r ∧
    (((cancelAt es ps i).1 ≠ 0 ∧ (∃ E : GErr, e = .returned (.tuple #[.bool (cancelAt es ps i).2.1, E.val]) ∧ E.num = (cancelAt es ps i).1 ∧ E ≠ .nil ∧ E.plain = true) ∧ BkI F w' b zs tol es ps ∧ Below W.heap.size W w') ∨
     ((cancelAt es ps i).1 = 0 ∧ e = .returned (.tuple #[.bool (cancelAt es ps i).2.1, .nilIface]) ∧ BkI (newF F W w') w' b zs tol (cancelAt es ps i).2.2.1 (cancelAt es ps i).2.2.2 ∧ Fr F W w')))
end Go.Proofs.YtphabkaiheplpaaGreatDoor
