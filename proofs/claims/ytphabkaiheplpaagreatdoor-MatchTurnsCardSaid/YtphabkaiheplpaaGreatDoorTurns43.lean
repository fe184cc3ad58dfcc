/- Joined texts of this proof: TuB. -/
import Derived.Test.YtphabkaiheplpaaGreatDoorTurns42
/- Two books side by side: one more side in one of them; what MatchTurns says of them. -/
set_option linter.unusedVariables false
set_option linter.unusedSimpArgs false
set_option maxRecDepth 100000
namespace Go.Proofs.YtphabkaiheplpaaGreatDoor
open Go.RowKit Go.Shelf

/-- Two books apart from each other, both newer than W0. -/
structure Two (W0 W : World) (F G : Nat → Prop) (b c : Nat) (zs : List ByteArray) (tol : Int) (es : List Ent) (ps : List Pr) (es2 : List Ent) (ps2 : List Pr) : Prop where
  one : BkI F W b zs tol es ps
  two : BkI G W c zs tol es2 ps2
  dis : ∀ i, F i → ¬ G i
  ge1 : ∀ i, F i → W0.heap.size ≤ i
  ge2 : ∀ i, G i → W0.heap.size ≤ i
  pf1 : PowFree F
  pf2 : PowFree G
  low : Below W0.heap.size W0 W
theorem BkI.lt {F : Nat → Prop} {W : World} {b : Nat} {zs : List ByteArray} {tol : Int} {es : List Ent} {ps : List Pr} (h : BkI F W b zs tol es ps) : ∀ i, F i → i < W.heap.size := by
  obtain ⟨_, _, _, _, _, _, _, _, _, _, h⟩ := h
  exact h
theorem Two.swap {W0 W : World} {F G : Nat → Prop} {b c : Nat} {zs : List ByteArray} {tol : Int} {es : List Ent} {ps : List Pr} {es2 : List Ent} {ps2 : List Pr} (h : Two W0 W F G b c zs tol es ps es2 ps2) : Two W0 W G F c b zs tol es2 ps2 es ps :=
  ⟨h.two, h.one, fun i hg hf => h.dis i hf hg, h.ge2, h.ge1, h.pf2, h.pf1, h.low⟩
theorem Two.grow {W0 W W1 : World} {F G : Nat → Prop} {b c : Nat} {zs : List ByteArray} {tol : Int} {es : List Ent} {ps : List Pr} {es2 : List Ent} {ps2 : List Pr} (h : Two W0 W F G b c zs tol es ps es2 ps2) (hb : Below W.heap.size W W1) : Two W0 W1 F G b c zs tol es ps es2 ps2 :=
  ⟨h.one.grow hb, h.two.grow hb, h.dis, h.ge1, h.ge2, h.pf1, h.pf2, bl_then h.low hb⟩
theorem Two.put {W0 W W1 : World} {F G : Nat → Prop} {b c : Nat} {zs : List ByteArray} {tol : Int} {es : List Ent} {ps : List Pr} {es2 : List Ent} {ps2 : List Pr} {es' : List Ent} {ps' : List Pr} (h : Two W0 W F G b c zs tol es ps es2 ps2) (hp : PowT W0) (hk : BkI (newF F W W1) W1 b zs tol es' ps') (hf : Fr F W W1) : Two W0 W1 (newF F W W1) G b c zs tol es' ps' es2 ps2 :=
  ⟨hk, h.two.other hf (fun i hg hf => h.dis i hf hg), fun i hi hg => by
    rcases hi with hi | hi
    · exact h.dis i hi hg
    · have := h.two.lt i hg
      omega, fun i hi => by
    rcases hi with hi | hi
    · exact h.ge1 i hi
    · have := h.low.size
      omega, h.ge2, h.pf1.newF (hp.below h.low), h.pf2, below_fr h.low hf h.ge1 h.low.size⟩
/-- One more side in the first of two books. -/
theorem two_add {W0 W : World} {F G : Nat → Prop} {b c : Nat} {zs : List ByteArray} {tol : Int} {es : List Ent} {ps : List Pr} {es2 : List Ent} {ps2 : List Pr} {p : Int} {x : Nt} {lx : List Lk} (h : Two W0 W F G b c zs tol es ps es2 ps2) (hx : x.wf) (hp : I64 p) (hrl : RdL W0 x.la x.ln lx) (hok : OkL lx) (hln : x.ln * 24 ≤ 140737488351232) (hsh : Short zs) (ht : I64 tol) (hpw : PowT W0) (hzl : zs.length ≤ 140737488351232) (hel : es.length ≤ 1) (hpl : ps.length ≤ 1) :
    Calls Tryz.prog 10 #[.pointer (some ⟨b, 0, none⟩), .agg (sideC p x)] W fun e w' => ∃ (E : GErr) (N P : Int) (es' : List Ent) (ps' : List Pr) (F' : Nat → Prop), e = .returned (.tuple #[.int .i64 N, .int .i64 P, E.val]) ∧ Two W0 w' F' G b c zs tol es' ps' es2 ps2 ∧ es'.length ≤ es.length + 1 ∧ ps'.length ≤ ps.length + 1 ∧ (E = .nil → ∃ la lc, addRes zs tol es ps (entN p x lx la lc) = (P, es', ps')) := by
  refine (add_any h.one hx hp (hrl.below h.low) hok hln hsh ht (hpw.below h.low) h.pf1 (by omega) hzl (by omega)).mono ?_
  rintro e w' (⟨h0, ⟨E, rfl, _, hE, _⟩, _, hb⟩ | ⟨h0, la, lc, rfl, hb, hfr⟩)
  · exact ⟨E, 0, 0, es, ps, F, rfl, h.grow hb, by omega, by omega, fun hn => absurd hn hE⟩
  · refine ⟨.nil, es.length, _, _, _, _, rfl, h.put hpw hb hfr, ?_, ?_, fun _ => ⟨la, lc, rfl⟩⟩
    · unfold addRes
      split
      · simp
      · simp [paired]
    · unfold addRes
      split
      · exact Nat.le_succ _
      · simp
theorem first_one (zs : List ByteArray) (tol : Int) (p q : Int) (x y : Nt) (lx ly : List Lk) (la la2 : Option Addr) (lc lc2 : Nat) : firstK zs tol [entN p x lx la lc] (entN q y ly la2 lc2) = if (fitK zs tol (entN q y ly la2 lc2) (entN p x lx la lc)).2 = true then some 0 else none := by
  unfold firstK
  show List.find? _ [0] = _
  rw [List.find?_cons]
  show (match (true && (fitK zs tol (entN q y ly la2 lc2) (entN p x lx la lc)).2) with | true => some 0 | false => _) = _
  rw [Bool.true_and]
  cases (fitK zs tol (entN q y ly la2 lc2) (entN p x lx la lc)).2 <;> rfl
theorem fit_either (zs : List ByteArray) (tol : Int) (p q : Int) (x y : Nt) (lx ly : List Lk) (la la2 : Option Addr) (lc lc2 : Nat) : (fitK zs tol (entN q y ly la2 lc2) (entN p x lx la lc)).2 = ((fitE p q x y zs tol).2 || (fitE q p y x zs tol).2) := by
  have h1 := @fit_ways p q x y zs tol
  have h2 := @fit_ways q p y x zs tol
  unfold fitK
  show (if y.receive then fitE p q x y zs tol else fitE q p y x zs tol).2 = _
  cases hy : y.receive with
  | true =>
    rw [if_pos rfl]
    have : (fitE q p y x zs tol).2 = false := by
      cases hh : (fitE q p y x zs tol).2
      · rfl
      · have := (h2 hh).1
        rw [hy] at this
        cases this
    rw [this, Bool.or_false]
  | false =>
    rw [if_neg (by decide)]
    have : (fitE p q x y zs tol).2 = false := by
      cases hh : (fitE p q x y zs tol).2
      · rfl
      · have := (h1 hh).2
        rw [hy] at this
        cases this
    rw [this, Bool.false_or]
theorem add_first {zs : List ByteArray} {tol : Int} {e : Ent} {P : Int} {es' : List Ent} {ps' : List Pr} (h : addRes zs tol [] [] e = (P, es', ps')) : es' = [e] ∧ ps' = [] := by
  rw [exFirst0'] at h
  injection h with h1 h2
  injection h2 with h2 h3
  exact ⟨h2.symm, h3.symm⟩
where exFirst0' {zs : List ByteArray} {tol : Int} {e : Ent} : addRes zs tol [] [] e = (-1, [e], []) := rfl
/-- Two sides, one behind the other, in a new book. -/
theorem add_both {zs : List ByteArray} {tol : Int} {p q : Int} {x y : Nt} {lx ly : List Lk} {la la2 : Option Addr} {lc lc2 : Nat} {P Q : Int} {es es' : List Ent} {ps ps' : List Pr} (h1 : addRes zs tol [] [] (entN p x lx la lc) = (P, es, ps)) (h2 : addRes zs tol es ps (entN q y ly la2 lc2) = (Q, es', ps')) :
    (Q == 0) = ((fitE p q x y zs tol).2 || (fitE q p y x zs tol).2) ∧ (stand ps').length = if ((fitE p q x y zs tol).2 || (fitE q p y x zs tol).2) = true then 1 else 0 := by
  obtain ⟨rfl, rfl⟩ := add_first h1
  unfold addRes at h2
  rw [first_one, fit_either] at h2
  cases hh : ((fitE p q x y zs tol).2 || (fitE q p y x zs tol).2) with
  | true =>
    rw [hh, if_pos rfl] at h2
    injection h2 with h3 h4
    injection h4 with h4 h5
    rw [← h3, ← h5]
    exact ⟨rfl, rfl⟩
  | false =>
    rw [hh, if_neg (by decide)] at h2
    injection h2 with h3 h4
    injection h4 with h4 h5
    rw [← h3, ← h5]
    exact ⟨rfl, rfl⟩
end Go.Proofs.YtphabkaiheplpaaGreatDoor
