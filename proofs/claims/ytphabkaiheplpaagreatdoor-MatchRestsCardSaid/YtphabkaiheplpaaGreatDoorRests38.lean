/- Joined texts of this proof: RsP. -/
import Derived.Test.YtphabkaiheplpaaGreatDoorRests28
import Derived.Test.YtphabkaiheplpaaGreatDoorRests37
/- What holds of a book whatever the calls: no two open sides fit, each standing pair fits, each side is open, gone, or in one standing pair. -/
set_option linter.unusedVariables false
set_option linter.unusedSimpArgs false
set_option maxRecDepth 100000
namespace Go.Proofs.YtphabkaiheplpaaGreatDoor
open Go.RowKit Go.Shelf Go.Maps

def fitAt (zs : List ByteArray) (tol : Int) (a b : Ent) : Int × Bool := fitE a.p b.p a.x b.x zs tol
structure RestI (zs : List ByteArray) (tol : Int) (es : List Ent) (ps : List Pr) : Prop where
  nofit : ∀ i j, i < es.length → j < es.length → openB (es.getD i ent0) = true → openB (es.getD j ent0) = true → (fitAt zs tol (es.getD i ent0) (es.getD j ent0)).2 = false
  std : ∀ m, m < ps.length → (ps.getD m pr0).gone = false → (es.getD (ps.getD m pr0).d ent0).pair = (m : Int) ∧ (es.getD (ps.getD m pr0).r ent0).pair = (m : Int) ∧ (es.getD (ps.getD m pr0).d ent0).gone = false ∧ (es.getD (ps.getD m pr0).r ent0).gone = false ∧ fitAt zs tol (es.getD (ps.getD m pr0).d ent0) (es.getD (ps.getD m pr0).r ent0) = ((ps.getD m pr0).a, true)
  pin : PairsIn es ps
  ent : ∀ k, k < es.length → 0 ≤ (es.getD k ent0).pair → (es.getD k ent0).gone = false → (ps.getD (es.getD k ent0).pair.toNat pr0).gone = false ∧ ((ps.getD (es.getD k ent0).pair.toNat pr0).d = k ∨ (ps.getD (es.getD k ent0).pair.toNat pr0).r = k)
theorem fitK_either (zs : List ByteArray) (tol : Int) (n k : Ent) : (fitK zs tol n k).2 = ((fitAt zs tol k n).2 || (fitAt zs tol n k).2) := by
  have h1 := @fit_ways k.p n.p k.x n.x zs tol
  have h2 := @fit_ways n.p k.p n.x k.x zs tol
  unfold fitK fitAt
  cases hy : n.x.receive with
  | true =>
    rw [if_pos rfl]
    have : (fitE n.p k.p n.x k.x zs tol).2 = false := by
      cases hh : (fitE n.p k.p n.x k.x zs tol).2
      · rfl
      · have := (h2 hh).1
        rw [hy] at this
        cases this
    rw [this, Bool.or_false]
  | false =>
    rw [if_neg (by decide)]
    have : (fitE k.p n.p k.x n.x zs tol).2 = false := by
      cases hh : (fitE k.p n.p k.x n.x zs tol).2
      · rfl
      · have := (h1 hh).2
        rw [hy] at this
        cases this
    rw [this, Bool.false_or]
theorem fit_self (zs : List ByteArray) (tol : Int) (e : Ent) : (fitAt zs tol e e).2 = false := by
  cases hh : (fitAt zs tol e e).2
  · rfl
  · have h := @fit_ways e.p e.p e.x e.x zs tol hh
    rw [h.1] at h
    cases h.2
theorem dr_ne {zs : List ByteArray} {tol : Int} {a b : Ent} {x : Int} (h : fitAt zs tol a b = (x, true)) : a.x.receive ≠ b.x.receive := by
  have := @fit_ways a.p b.p a.x b.x zs tol (by show (fitAt zs tol a b).2 = true; rw [h])
  rw [this.1, this.2]
  decide
theorem getD_lt_append {es : List Ent} {e : Ent} {k : Nat} (h : k < es.length) : (es ++ [e]).getD k ent0 = es.getD k ent0 := getD_append_lt h
theorem prD_lt_append {ps : List Pr} {q : Pr} {m : Nat} (h : m < ps.length) : (ps ++ [q]).getD m pr0 = ps.getD m pr0 := by
  rw [List.getD_eq_getElem?_getD, List.getD_eq_getElem?_getD, List.getElem?_append_left h]
theorem prD_new (ps : List Pr) (q : Pr) : (ps ++ [q]).getD ps.length pr0 = q := by
  rw [List.getD_eq_getElem?_getD]; simp
theorem RestI.nil (zs : List ByteArray) (tol : Int) : RestI zs tol [] [] :=
  ⟨fun i j h => absurd h (Nat.not_lt_zero _), fun m h => absurd h (Nat.not_lt_zero _), fun m h => absurd h (Nat.not_lt_zero _), fun k h => absurd h (Nat.not_lt_zero _)⟩
theorem pr_mem {ps : List Pr} {m : Nat} (h : m < ps.length) : ps.getD m pr0 ∈ ps := by
  rw [List.getD_eq_getElem?_getD, List.getElem?_eq_getElem h]; exact List.getElem_mem h
/-- One more side that fits none. -/
theorem RestI.add_none {zs : List ByteArray} {tol : Int} {es : List Ent} {ps : List Pr} {e : Ent} (h : RestI zs tol es ps) (hs : StOk zs es ps) (he : e.pair = -1) (hk : firstK zs tol es e = none) : RestI zs tol (es ++ [e]) ps := by
  have hno : ∀ k, k < es.length → openB (es.getD k ent0) = true → (fitAt zs tol (es.getD k ent0) e).2 = false ∧ (fitAt zs tol e (es.getD k ent0)).2 = false := fun k hk1 ho => by
    unfold firstK at hk
    rw [List.find?_eq_none] at hk
    have h1 := hk k (List.mem_range.2 hk1)
    rw [ho, Bool.true_and, fitK_either, Bool.not_eq_true, Bool.or_eq_false_iff] at h1
    exact h1
  have hlen : (es ++ [e]).length = es.length + 1 := by simp
  refine ⟨fun i j hi hj hoi hoj => ?_, fun m hm hg => ?_, fun m hm => ?_, fun k hk1 hp hg => ?_⟩
  · rw [hlen] at hi hj
    by_cases h1 : i < es.length
    · by_cases h2 : j < es.length
      · rw [getD_lt_append h1] at hoi ⊢
        rw [getD_lt_append h2] at hoj ⊢
        exact h.nofit i j h1 h2 hoi hoj
      · have : j = es.length := by omega
        subst this
        rw [getD_lt_append h1] at hoi ⊢
        rw [getD_append_new]
        exact (hno i h1 hoi).1
    · have : i = es.length := by omega
      subst this
      rw [getD_append_new]
      by_cases h2 : j < es.length
      · rw [getD_lt_append h2] at hoj ⊢
        exact (hno j h2 hoj).2
      · have : j = es.length := by omega
        subst this
        rw [getD_append_new]
        exact fit_self zs tol e
  · have hq := hs.prs _ (pr_mem hm)
    rw [getD_lt_append hq.1, getD_lt_append hq.2.1]
    exact h.std m hm hg
  · have hq := hs.prs _ (pr_mem hm)
    rw [getD_lt_append hq.1, getD_lt_append hq.2.1]
    exact h.pin m hm
  · rw [hlen] at hk1
    by_cases h1 : k < es.length
    · rw [getD_lt_append h1] at hp hg ⊢
      exact h.ent k h1 hp hg
    · have : k = es.length := by omega
      subst this
      rw [getD_append_new, he] at hp
      omega
theorem set_getD {es : List Ent} {d k : Nat} (hd : d < es.length) (e : Ent) : (es.set d e).getD k ent0 = if d = k then e else es.getD k ent0 := by
  by_cases h : d = k
  · subst h; rw [if_pos rfl, getD_set_eq hd]
  · rw [if_neg h, getD_set_ne2 h]
theorem paired_getD {es : List Ent} {d r k : Nat} (hd : d < es.length) (hr : r < es.length) (m : Int) : (paired es d r m).getD k ent0 = if d = k ∨ r = k then { es.getD k ent0 with pair := m } else es.getD k ent0 := by
  unfold paired
  rw [set_getD (by simpa using hr)]
  by_cases h2 : r = k
  · subst h2
    rw [if_pos rfl, if_pos (.inr rfl), set_getD hd]
    by_cases h1 : d = r
    · subst h1; rw [if_pos rfl]
    · rw [if_neg h1]
  · rw [if_neg h2, set_getD hd]
    by_cases h1 : d = k
    · subst h1; rw [if_pos rfl, if_pos (.inl rfl)]
    · rw [if_neg h1, if_neg (by rintro (h | h) <;> contradiction)]
/-- One more side that finds another. -/
theorem RestI.add_some {zs : List ByteArray} {tol : Int} {es : List Ent} {ps : List Pr} {e : Ent} {k : Nat} (h : RestI zs tol es ps) (hs : StOk zs es ps) (he : e.pair = -1) (heg : e.gone = false) (hk : firstK zs tol es e = some k) :
    RestI zs tol (paired (es ++ [e]) (drOf e es.length k).1 (drOf e es.length k).2 ps.length) (ps ++ [Pr.mk (drOf e es.length k).1 (drOf e es.length k).2 (fitK zs tol e (es.getD k ent0)).1 false]) := by
  unfold firstK at hk
  have hmem := List.mem_of_find?_eq_some hk
  have hkl : k < es.length := List.mem_range.1 hmem
  have hpk := List.find?_some hk
  rw [Bool.and_eq_true] at hpk
  obtain ⟨hok, hfk⟩ := hpk
  have hkg : (es.getD k ent0).gone = false ∧ (es.getD k ent0).pair < 0 := by
    unfold openB at hok
    rw [Bool.and_eq_true, Bool.not_eq_true', decide_eq_true_eq] at hok
    exact hok
  have hlt := drOf_lt e hkl
  have hfit : fitAt zs tol ((es ++ [e]).getD (drOf e es.length k).1 ent0) ((es ++ [e]).getD (drOf e es.length k).2 ent0) = ((fitK zs tol e (es.getD k ent0)).1, true) := by
    have := fitK_dr (zs := zs) (tol := tol) (e := e) hkl
    unfold fitAt
    rw [← this, ← hfk]
  have hdr : ((drOf e es.length k).1 = es.length ∧ (drOf e es.length k).2 = k) ∨ ((drOf e es.length k).1 = k ∧ (drOf e es.length k).2 = es.length) := by
    rcases dr_cases e es.length k with h1 | h1 <;> rw [h1]
    · exact .inl ⟨rfl, rfl⟩
    · exact .inr ⟨rfl, rfl⟩
  generalize (drOf e es.length k).1 = d at *
  generalize (drOf e es.length k).2 = r at *
  generalize (fitK zs tol e (es.getD k ent0)).1 = am at *
  have hlen : (es ++ [e]).length = es.length + 1 := by simp
  have old : ∀ j, j < es.length → j ≠ k → (paired (es ++ [e]) d r ps.length).getD j ent0 = es.getD j ent0 := fun j hj hne => by
    rw [paired_getD hlt.1 hlt.2, if_neg (by omega), getD_lt_append hj]
  have new : ∀ j, j = k ∨ j = es.length → (paired (es ++ [e]) d r ps.length).getD j ent0 = { (es ++ [e]).getD j ent0 with pair := (ps.length : Int) } := fun j hj => by
    rw [paired_getD hlt.1 hlt.2, if_pos (by omega)]
  have hnew : ∀ j, j = k ∨ j = es.length → ((es ++ [e]).getD j ent0).gone = false := fun j hj => by
    rcases hj with rfl | rfl
    · rw [getD_lt_append hkl]; exact hkg.1
    · rw [getD_append_new]; exact heg
  have oldp : ∀ m, m < ps.length → 0 ≤ (es.getD (ps.getD m pr0).d ent0).pair ∧ 0 ≤ (es.getD (ps.getD m pr0).r ent0).pair → (ps.getD m pr0).d ≠ k ∧ (ps.getD m pr0).r ≠ k := fun m hm hp => by
    refine ⟨fun e1 => ?_, fun e1 => ?_⟩
    · rw [e1] at hp; omega
    · rw [e1] at hp; omega
  refine ⟨fun i j hi hj hoi hoj => ?_, fun m hm hg => ?_, fun m hm => ?_, fun j hj hp hg => ?_⟩
  · rw [paired_length, hlen] at hi hj
    have cl : ∀ j, (j = k ∨ j = es.length) → openB ((paired (es ++ [e]) d r ps.length).getD j ent0) = false := fun j hj => by
      rw [new j hj]; unfold openB; simp
    have ni : ¬ (i = k ∨ i = es.length) := fun h1 => by rw [cl i h1] at hoi; cases hoi
    have nj : ¬ (j = k ∨ j = es.length) := fun h1 => by rw [cl j h1] at hoj; cases hoj
    rw [old i (by omega) (by omega)] at hoi ⊢
    rw [old j (by omega) (by omega)] at hoj ⊢
    exact h.nofit i j (by omega) (by omega) hoi hoj
  · by_cases h1 : m < ps.length
    · rw [prD_lt_append h1] at hg ⊢
      have hq := hs.prs _ (pr_mem h1)
      have hn := oldp m h1 (h.pin m h1)
      rw [old _ hq.1 hn.1, old _ hq.2.1 hn.2]
      exact h.std m h1 hg
    · have hm' : m < ps.length + 1 := by simpa using hm
      have : m = ps.length := by omega
      subst this
      rw [prD_new]
      show ((paired (es ++ [e]) d r ps.length).getD d ent0).pair = _ ∧ ((paired (es ++ [e]) d r ps.length).getD r ent0).pair = _ ∧ ((paired (es ++ [e]) d r ps.length).getD d ent0).gone = false ∧ ((paired (es ++ [e]) d r ps.length).getD r ent0).gone = false ∧ fitAt zs tol ((paired (es ++ [e]) d r ps.length).getD d ent0) ((paired (es ++ [e]) d r ps.length).getD r ent0) = (am, true)
      rw [new d (by omega), new r (by omega)]
      exact ⟨rfl, rfl, hnew d (by omega), hnew r (by omega), hfit⟩
  · by_cases h1 : m < ps.length
    · rw [prD_lt_append h1]
      have hq := hs.prs _ (pr_mem h1)
      have hn := oldp m h1 (h.pin m h1)
      rw [old _ hq.1 hn.1, old _ hq.2.1 hn.2]
      exact h.pin m h1
    · have hm' : m < ps.length + 1 := by simpa using hm
      have : m = ps.length := by omega
      subst this
      rw [prD_new]
      show 0 ≤ ((paired (es ++ [e]) d r ps.length).getD d ent0).pair ∧ 0 ≤ ((paired (es ++ [e]) d r ps.length).getD r ent0).pair
      rw [new d (by omega), new r (by omega)]
      exact ⟨Int.natCast_nonneg _, Int.natCast_nonneg _⟩
  · rw [paired_length, hlen] at hj
    by_cases h1 : j = k ∨ j = es.length
    · rw [new j h1]
      show (((ps ++ [Pr.mk d r am false]).getD (Int.toNat (ps.length : Int)) pr0).gone = false) ∧ _
      rw [Int.toNat_natCast, prD_new]
      exact ⟨rfl, by show d = j ∨ r = j; omega⟩
    · rw [old j (by omega) (by omega)] at hp hg ⊢
      have hb := (hs.ent _ (getD_mem (es := es) (d := j) (by omega))).2.2.2.2.2.1
      rw [prD_lt_append (by omega)]
      exact h.ent j (by omega) hp hg
theorem RestI.add {zs : List ByteArray} {tol : Int} {es : List Ent} {ps : List Pr} {e : Ent} (h : RestI zs tol es ps) (hs : StOk zs es ps) (he : e.pair = -1) (heg : e.gone = false) : RestI zs tol (addRes zs tol es ps e).2.1 (addRes zs tol es ps e).2.2 := by
  unfold addRes
  cases hk : firstK zs tol es e with
  | none => exact h.add_none hs he hk
  | some k => exact h.add_some hs he heg hk
end Go.Proofs.YtphabkaiheplpaaGreatDoor
