/- Joined texts of this proof: Wk22d. -/
import Derived.Outline
import Derived.Test.YtphabkaiheplpaaGreatDoorRests34
/- custodylaw22.works. -/
set_option linter.unusedVariables false
set_option linter.unusedSimpArgs false
set_option maxRecDepth 100000
namespace Go.Proofs.YtphabkaiheplpaaGreatDoor
open Go.RowKit Go.Shelf

def memO : Obj := .cells #[.string sDEUT, .string sBNP] 9
theorem below_fr {B : Nat} {F : Nat → Prop} {w W W1 : World} (hb : Below B w W) (hf : Fr F W W1) (hF : ∀ i, F i → B ≤ i) (hB : B ≤ W.heap.size) : Below B w W1 :=
  ⟨hf.os.trans hb.os, hf.tape.trans hb.tape, hf.output.trans hb.output, Nat.le_trans hb.size hf.size, fun i hi => (hf.block i (by omega) (fun h => by have := hF i h; omega)).trans (hb.block i hi)⟩
theorem ex_fit (w : World) (hp : PowT w) : Calls Tryz.prog 7 #[.agg (sideC 0 nD), .agg (sideC 1 nR), .slice (some ⟨w.heap.size, 0, none⟩) 2 2, .int .i64 200] (w.alloc memO) fun e w' => e = .returned (.tuple #[.int .i64 5000, .bool true]) ∧ Below (w.alloc memO).heap.size (w.alloc memO) w' := by
  have h := fit_side zsW 200 (entN 0 nD [] none 0) (entN 1 nR [] none 0) (some ⟨w.heap.size, 0, none⟩) 2 (w.alloc memO) ⟨wfD, by unfold I64; exact ⟨by decide, by decide⟩⟩ ⟨wfR, by unfold I64; exact ⟨by decide, by decide⟩⟩ (by unfold I64; exact ⟨by decide, by decide⟩) (membersR w) shortW (by decide) (hp.below (bl_alloc (bl_refl w) _))
  have e : fitE (entN 0 nD [] none 0).p (entN 1 nR [] none 0).p (entN 0 nD [] none 0).x (entN 1 nR [] none 0).x zsW 200 = (5000, true) := by kernel_rfl
  rw [e] at h
  exact h
theorem ex_new (w : World) : Calls Tryz.prog 9 #[.slice (some ⟨w.heap.size, 0, none⟩) 2 2, .int .i64 200] (w.alloc memO) fun e w' => ∃ b, e = .returned (.pointer (some ⟨b, 0, none⟩)) ∧ BkI (fun i => (w.alloc memO).heap.size ≤ i ∧ i < w'.heap.size) w' b zsW 200 [] [] ∧ Below (w.alloc memO).heap.size (w.alloc memO) w' :=
  new_any (some ⟨w.heap.size, 0, none⟩) 2 2 zsW 200 (w.alloc memO) (membersR w) (by decide)
theorem ex_add1 {F : Nat → Prop} {W : World} {b : Nat} (h : BkI F W b zsW 200 [] []) (hp : PowT W) (hf : PowFree F) : Calls Tryz.prog 10 #[.pointer (some ⟨b, 0, none⟩), .agg (sideC 1 nR)] W fun e w' => ∃ (la : Option Addr) (lc : Nat), e = .returned (.tuple #[.int .i64 0, .int .i64 (-1), .nilIface]) ∧ BkI (newF F W w') w' b zsW 200 [entN 1 nR [] la lc] [] ∧ Fr F W w' := by
  refine (add_any h wfR (by unfold I64; exact ⟨by decide, by decide⟩) (rdNil W) okNil (by decide) shortW (by unfold I64; exact ⟨by decide, by decide⟩) hp hf (by decide) (by decide) (by decide)).mono ?_
  rintro e w' (⟨h0, _⟩ | ⟨_, la, lc, he, hb, hfr⟩)
  · exact absurd exNoR h0
  · rw [exFirst0] at he hb
    exact ⟨la, lc, he, hb, hfr⟩
theorem ex_add2 {F : Nat → Prop} {W : World} {b : Nat} {la : Option Addr} {lc : Nat} (h : BkI F W b zsW 200 [entN 1 nR [] la lc] []) (hp : PowT W) (hf : PowFree F) : Calls Tryz.prog 10 #[.pointer (some ⟨b, 0, none⟩), .agg (sideC 0 nD)] W fun e w' => ∃ es, e = .returned (.tuple #[.int .i64 1, .int .i64 0, .nilIface]) ∧ BkI (newF F W w') w' b zsW 200 es [Pr.mk 1 0 5000 false] ∧ Fr F W w' := by
  refine (add_any h wfD (by unfold I64; exact ⟨by decide, by decide⟩) (rdNil W) okNil (by decide) shortW (by unfold I64; exact ⟨by decide, by decide⟩) hp hf (show (1 : Nat) + 1 ≤ 676000000000 by decide) (by decide) (by decide)).mono ?_
  rintro e w' (⟨h0, _⟩ | ⟨_, la2, lc2, he, hb, hfr⟩)
  · exact absurd (exNoD la lc) h0
  · rw [exFirst] at he hb
    exact ⟨_, he, hb, hfr⟩
theorem ex_pairs {F : Nat → Prop} {W : World} {b : Nat} {es : List Ent} (h : BkI F W b zsW 200 es [Pr.mk 1 0 5000 false]) : Calls Tryz.prog 11 #[.pointer (some ⟨b, 0, none⟩)] W fun e w' => ∃ g c, e = .returned (.slice (some ⟨g, 0, none⟩) 1 c) ∧ One w' g ∧ Below W.heap.size W w' := by
  refine (pairs_any h (by decide)).mono ?_
  rintro e w' ⟨v, rfl, hown, hb⟩
  rcases hown.2 with ⟨_, h0⟩ | ⟨g, cap, cur, he, _, hg, _, _, _, ht⟩
  · exact absurd h0 (by decide)
  · refine ⟨g, cap, by rw [he]; rfl, ⟨cur, _, _, hg, ?_⟩, hb⟩
    have ht2 : cur.toList.take 3 = [.int .i64 1, .int .i64 0, .int .i64 5000] := ht
    have k : ∀ j, j < 3 → cur[j]? = ([Value.int .i64 1, .int .i64 0, .int .i64 5000] : List Value)[j]? := fun j hj => by
      rw [← ht2, List.getElem?_take, if_pos hj, Array.getElem?_toList]
    exact ⟨k 0 (by omega), k 1 (by omega), k 2 (by omega)⟩
end Go.Proofs.YtphabkaiheplpaaGreatDoor
