/- Rows of the call's own memory: their blocks, their growing, several of them no two in one block. -/
import Derived.Test.YtccnfklemalmeaaDoorProg
import Derived.WalkKit
import Derived.OwnWalk
import Derived.Laws.AppendOwn
import Derived.Laws.OwnMore
import Derived.Below
import Derived.Maps.AppendAt
import Derived.RowKitTokens
import Derived.Lib.Hide
import Derived.LoopTactic
set_option linter.unusedVariables false
set_option linter.unusedSimpArgs false
set_option maxRecDepth 100000
namespace Go.Proofs.YtccnfklemalmeaaDoor
open Go.RowKit

theorem ow_nil (W : World) (base : Nat) (e : TypeId) (size : Nat) : W.ownsRow base e size (.slice none 0 0) 0 [] := ⟨by simp, .inl ⟨rfl, rfl⟩⟩
theorem ow_base {w : World} {base : Nat} {e : TypeId} {size n : Nat} {v : Value} {xs : List Value} (h : w.ownsRow base e size v n xs) (k : Nat) (hk : v.ownBlock = some k) : base ≤ k := by
  rcases h.2 with ⟨rfl, _⟩ | ⟨g, cap, cur, rfl, hb, _⟩
  · simp [Value.ownBlock] at hk
  · have : g = k := by simpa [Value.ownBlock] using hk
    omega
/-- Old memory stays where an owned row has grown. -/
theorem ow_below {w wr w1 : World} {base : Nat} {e : TypeId} {size n : Nat} {v : Value} {xs : List Value} (o : Obj) (h : wr.ownsRow base e size v n xs) (hb : Below base w wr) (hB : base ≤ wr.heap.size) (hg : (wr.alloc o).grownBy w1 v.ownBlock) : Below base w w1 :=
  (hb.alloc hB o).grown hg (by simp; omega) (fun k hk => ow_base h k hk)
theorem ow_slice {w : World} {base n : Nat} {e : TypeId} {size : Nat} {v : Value} {xs : List Value} (h : w.ownsRow base e size v n xs) : ∃ A c, v = .slice A n c := by
  rcases h.2 with ⟨rfl, rfl⟩ | ⟨g, cap, cur, rfl, _⟩
  · exact ⟨none, 0, rfl⟩
  · exact ⟨_, cap, rfl⟩
theorem ow_lt {w : World} {base : Nat} {e : TypeId} {size n : Nat} {v : Value} {xs : List Value} (h : w.ownsRow base e size v n xs) (k : Nat) (hk : v.ownBlock = some k) : k < w.heap.size := by
  rcases h.2 with ⟨rfl, _⟩ | ⟨g, cap, cur, rfl, hb, hh, _⟩
  · simp [Value.ownBlock] at hk
  · have : g = k := by simpa [Value.ownBlock] using hk
    subst this
    exact (Array.getElem?_eq_some_iff.1 hh).1
/-- A row: its element type, its value, its cells (one cell an element). -/
abbrev Own1 := TypeId × Value × List Value
structure OwnAll (w : World) (B : Nat) (rs : List Own1) : Prop where
  own : ∀ (i : Nat) (r : Own1), rs[i]? = some r → w.ownsRow B r.1 1 r.2.1 r.2.2.length r.2.2
  apart : ∀ (i j : Nat) (r s : Own1), i ≠ j → rs[i]? = some r → rs[j]? = some s → r.2.1.ownBlock = none ∨ r.2.1.ownBlock ≠ s.2.1.ownBlock
theorem OwnAll.at_ {w : World} {B : Nat} {rs : List Own1} (h : OwnAll w B rs) (i : Nat) {e : TypeId} {v : Value} {xs : List Value} {n : Nat} (hi : rs[i]? = some (e, v, xs)) (hn : xs.length = n) : w.ownsRow B e 1 v n xs := hn ▸ h.own i _ hi
theorem OwnAll.alloc {w : World} {B : Nat} {rs : List Own1} (h : OwnAll w B rs) (o : Obj) : OwnAll (w.alloc o) B rs := ⟨fun i r hi => (h.own i r hi).alloc o, h.apart⟩
theorem OwnAll.below {w w1 : World} {B : Nat} {rs : List Own1} (h : OwnAll w B rs) (hb : Below w.heap.size w w1) : OwnAll w1 B rs :=
  ⟨fun i r hi => (h.own i r hi).kept ⟨hb.os, hb.tape, hb.output, hb.size, fun i hi _ => hb.block i hi⟩ (row := none) (by cases r.2.1.ownBlock <;> simp), h.apart⟩
theorem OwnAll.grow {w w1 : World} {B : Nat} {rs : List Own1} (h : OwnAll w B rs) (o : Obj) (i : Nat) {e : TypeId} {v v' : Value} {xs xs' : List Value} (hi : rs[i]? = some (e, v, xs))
    {n' : Nat} (hown : w1.ownsRow B e 1 v' n' xs') (hg : (w.alloc o).grownBy w1 v.ownBlock) (hat : v'.ownBlock = v.ownBlock ∨ v'.ownBlock = some (w.heap.size + 1)) : OwnAll w1 B (rs.set i (e, v', xs')) := by
  have hn : n' = xs'.length := by have := hown.1; omega
  subst hn
  have hlen : i < rs.length := (List.getElem?_eq_some_iff.1 hi).1
  have old : ∀ (j : Nat) (r : Own1), j ≠ i → (rs.set i (e, v', xs'))[j]? = some r → rs[j]? = some r := by
    intro j r hj hr
    rwa [List.getElem?_set_ne (Ne.symm hj)] at hr
  have self : ∀ r : Own1, (rs.set i (e, v', xs'))[i]? = some r → r = (e, v', xs') := by
    intro r hr
    rw [List.getElem?_set_self hlen] at hr
    exact (Option.some.inj hr).symm
  have far : ∀ (j : Nat) (r : Own1), j ≠ i → rs[j]? = some r → (r.2.1.ownBlock = none ∨ r.2.1.ownBlock ≠ v'.ownBlock) ∧ (v'.ownBlock = none ∨ v'.ownBlock ≠ r.2.1.ownBlock) := by
    intro j r hj hr
    have h1 := h.apart j i r _ hj hr hi
    have h2 := h.apart i j _ r (Ne.symm hj) hi hr
    have hl := ow_lt (h.own j r hr)
    rcases hat with e1 | e1
    · rw [e1]; exact ⟨h1, h2⟩
    · rw [e1]
      cases hb : r.2.1.ownBlock with
      | none => exact ⟨.inl rfl, .inr (by simp)⟩
      | some g =>
        have := hl g hb
        exact ⟨.inr (by simp; omega), .inr (by simp; omega)⟩
  refine ⟨fun j r hr => ?_, fun j k r s hjk hr hs => ?_⟩
  · by_cases hj : j = i
    · subst hj
      obtain rfl := self r hr
      exact hown
    · have hr0 := old j r hj hr
      exact ((h.own j r hr0).alloc o).kept hg (h.apart j i r _ hj hr0 hi)
  · by_cases hj : j = i
    · subst hj
      obtain rfl := self r hr
      exact (far k s (Ne.symm hjk) (old k s (Ne.symm hjk) hs)).2
    · by_cases hk : k = i
      · subst hk
        obtain rfl := self s hs
        exact (far j r hj (old j r hj hr)).1
      · exact h.apart j k r s hjk (old j r hj hr) (old k s hk hs)
theorem OwnAll.nils (w : World) (B : Nat) (es : List TypeId) : OwnAll w B (es.map fun e => (e, .slice none 0 0, [])) := by
  refine ⟨fun i r hr => ?_, fun i j r s _ hr _ => .inl ?_⟩
  · obtain ⟨e, _, rfl⟩ := List.mem_map.1 (List.mem_of_getElem? hr)
    exact ow_nil _ _ _ _
  · obtain ⟨e, _, rfl⟩ := List.mem_map.1 (List.mem_of_getElem? hr)
    rfl
theorem ow_keep {w w1 : World} {base n : Nat} {e : TypeId} {size : Nat} {v : Value} {xs : List Value} (h : w.ownsRow base e size v n xs) (hb : Below w.heap.size w w1) : w1.ownsRow base e size v n xs :=
  h.kept ⟨hb.os, hb.tape, hb.output, hb.size, fun i hi _ => hb.block i hi⟩ (row := none) (by cases v.ownBlock <;> simp)
theorem grow_below {w wr w1 : World} {base : Nat} {e : TypeId} {size n : Nat} {v : Value} {xs : List Value} {o : Obj} (h : wr.ownsRow base e size v n xs) (hb : Below base w wr) (hB : base ≤ wr.heap.size) (hg : (wr.alloc o).grownBy w1 v.ownBlock) : Below base w w1 :=
  (hb.alloc hB o).grown hg (by simp; omega) (fun k hk => ow_base h k hk)
end Go.Proofs.YtccnfklemalmeaaDoor
