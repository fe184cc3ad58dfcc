/- Joined texts of this proof: Wk22c. -/
import Derived.Test.YtphabkaiheplpaaGreatDoorRests33
/- The example of chapter 22 in plain Lean. -/
set_option linter.unusedVariables false
set_option linter.unusedSimpArgs false
set_option maxRecDepth 100000
namespace Go.Proofs.YtphabkaiheplpaaGreatDoor
open Go.RowKit Go.Shelf

theorem exFit : fitE 0 1 nD nR zsW 200 = (5000, true) := by kernel_rfl
theorem exNoteR : noteE nR [] = 0 := by kernel_rfl
theorem exNoteD : noteE nD [] = 0 := by kernel_rfl
theorem exNoR : addNo zsW [] 1 nR [] = 0 := by kernel_rfl
theorem exNoD (la : Option Addr) (lc : Nat) : addNo zsW [entN 1 nR [] la lc] 0 nD [] = 0 := by kernel_rfl
theorem exFirst0 (e : Ent) : addRes zsW 200 [] [] e = (-1, [e], []) := by kernel_rfl
theorem exFirst (la la2 : Option Addr) (lc lc2 : Nat) : addRes zsW 200 [entN 1 nR [] la lc] [] (entN 0 nD [] la2 lc2) = (0, paired [entN 1 nR [] la lc, entN 0 nD [] la2 lc2] 1 0 0, [Pr.mk 1 0 5000 false]) := by kernel_rfl
theorem wfD : nD.wf := by
  refine ⟨by decide, by decide, by unfold I64; exact ⟨by decide, by decide⟩, by unfold I64; exact ⟨by decide, by decide⟩, by unfold I64; exact ⟨by decide, by decide⟩, fun i => ?_, by unfold I64; exact ⟨by decide, by decide⟩, by decide, by decide, by decide, by unfold I64; exact ⟨by decide, by decide⟩, by decide⟩
  show 0 ≤ codeW i ∧ codeW i ≤ 255
  by_cases h : i < 12
  · have : i = 0 ∨ i = 1 ∨ i = 2 ∨ i = 3 ∨ i = 4 ∨ i = 5 ∨ i = 6 ∨ i = 7 ∨ i = 8 ∨ i = 9 ∨ i = 10 ∨ i = 11 := by omega
    rcases this with rfl | rfl | rfl | rfl | rfl | rfl | rfl | rfl | rfl | rfl | rfl | rfl <;> decide
  · have : codeW i = 0 := by
      unfold codeW
      rw [List.getD_eq_getElem?_getD, List.getElem?_eq_none (by simp; omega)]
      rfl
    omega
theorem wfR : nR.wf := by
  have h := wfD
  exact ⟨by decide, by decide, by unfold I64; exact ⟨by decide, by decide⟩, by unfold I64; exact ⟨by decide, by decide⟩, by unfold I64; exact ⟨by decide, by decide⟩, h.code, by unfold I64; exact ⟨by decide, by decide⟩, by decide, by decide, by decide, by unfold I64; exact ⟨by decide, by decide⟩, by decide⟩
theorem shortW : Short zsW := by
  intro i
  rcases i with _ | _ | i
  · decide
  · decide
  · show (([] : List ByteArray).getD i ⟨#[]⟩).size ≤ _
    rw [List.getD_eq_getElem?_getD, List.getElem?_nil]
    decide
theorem okNil : OkL [] := fun i => by
  rw [List.getD_eq_getElem?_getD, List.getElem?_nil]
  exact ⟨by unfold I64; exact ⟨by decide, by decide⟩, by decide⟩
theorem rdNil (w : World) : RdL w none 0 [] := ⟨rfl, fun i hi => absurd hi (Nat.not_lt_zero _)⟩
theorem pairsOne (la la2 : Option Addr) (lc lc2 : Nat) : stand [Pr.mk 1 0 5000 false] = [Pr.mk 1 0 5000 false] := rfl
theorem pow_free {w W : World} (h : PowT w) : PowFree (fun i => w.heap.size ≤ i ∧ i < W.heap.size) := fun g hg hf => by
  unfold PowT Lib.TabIs World.var? at h
  rw [hg] at h
  simp only [Option.bind_some] at h
  rw [Array.getElem?_eq_none (by omega)] at h
  cases h
theorem PowFree.newF {F : Nat → Prop} {w W : World} (hF : PowFree F) (h : PowT w) : PowFree (newF F w W) := fun g hg hf => by
  rcases hf with hf | hf
  · exact hF g hg hf
  · exact pow_free (W := W) h g hg hf
end Go.Proofs.YtphabkaiheplpaaGreatDoor
