/- Joined texts of this proof: TurnP. -/
import Derived.Test.YtphabkaiheplpaaGreatDoorRests36
/- What MatchTurns says, of the plain fit and the plain book. -/
set_option linter.unusedVariables false
set_option linter.unusedSimpArgs false
set_option maxRecDepth 100000
namespace Go.Proofs.YtphabkaiheplpaaGreatDoor
open Go.RowKit Go.Shelf

theorem fit_zero {p q : Int} {x y : Nt} {zs : List ByteArray} {tol : Int} (h : (fitE p q x y zs tol).2 = false) : (fitE p q x y zs tol).1 = 0 := by
  unfold fitE at h ⊢
  repeat' split
  all_goals first | rfl | (exfalso; simp_all)
theorem fit_pay {p q : Int} {x y : Nt} {zs : List ByteArray} {tol : Int} (h : (fitE p q x y zs tol).2 = true) (hp : x.pay = true) : (fitE p q x y zs tol).1 = x.amount := by
  unfold fitE at h ⊢
  repeat' split
  all_goals first | rfl | (exfalso; simp_all)
theorem fit_free {p q : Int} {x y : Nt} {zs : List ByteArray} {tol : Int} (hp : x.pay = false) : (fitE p q x y zs tol).1 = 0 := by
  unfold fitE
  repeat' split
  all_goals first | rfl | (exfalso; simp_all)
theorem fit_blind (p q : Int) (x y : Nt) (zs : List ByteArray) (tol : Int) (r pr : ByteArray) (k : Int) (la : Option Addr) (ln lc : Nat) : fitE p q { x with ref := r, prev := pr, priority := k, la := la, ln := ln, lc := lc } y zs tol = fitE p q x y zs tol := rfl
theorem fit_blind2 (p q : Int) (x y : Nt) (zs : List ByteArray) (tol : Int) (a : Int) (c : ByteArray) (hp : x.pay = false) : fitE p q x { y with amount := a, currency := c } zs tol = fitE p q x y zs tol := by
  have hu : unlike x { y with amount := a, currency := c } = unlike x y := rfl
  unfold fitE
  rw [hu, hp]
  rfl
theorem near_more {a b t m : Int} (h : nearB a b t = true) (hm : t ≤ m) : nearB a b m = true := by
  unfold nearB at *
  rw [Bool.and_eq_true, decide_eq_true_eq] at *
  refine ⟨by omega, ?_⟩
  have h2 := h.2
  split at h2 <;> split <;> first | (exfalso; omega) | (rw [decide_eq_true_eq] at *; omega)
theorem near_zero {a b : Int} (h : nearB a b 0 = true) : a = b := by
  unfold nearB at h
  rw [Bool.and_eq_true] at h
  have h2 := h.2
  split at h2 <;> rw [decide_eq_true_eq] at h2 <;> omega
theorem fit_more {p q : Int} {x y : Nt} {zs : List ByteArray} {tol more : Int} (h : (fitE p q x y zs tol).2 = true) (hm : tol ≤ more) : fitE p q x y zs more = fitE p q x y zs tol := by
  unfold fitE at h ⊢
  by_cases h1 : unlike x y = true
  · rw [if_pos h1] at h; cases h
  · rw [if_neg h1] at h
    simp only [if_neg h1]
    split at h
    · cases h
    · rename_i h2
      simp only [if_neg h2]
      split at h
      · rename_i h3
        simp only [if_pos h3]
      · rename_i h3
        simp only [if_neg h3]
        split at h
        · cases h
        · rename_i h4
          rw [if_neg h4]
          have hn : nearB x.amount y.amount tol = true := by
            cases hh : nearB x.amount y.amount tol
            · rw [hh] at h4; simp at h4
            · rfl
          have h5 := near_more hn hm
          rw [if_neg]
          rw [h5]
          rw [hn] at h4
          exact h4
theorem fit_same {p q : Int} {x y : Nt} {zs : List ByteArray} (h : (fitE p q x y zs 0).2 = true) (hp : x.pay = true) : (fitE p q x y zs 0).1 = y.amount := by
  rw [fit_pay h hp]
  unfold fitE at h
  split at h
  · cases h
  · split at h
    · cases h
    · split at h
      · rename_i h3
        rw [hp] at h3
        cases h3
      · split at h
        · cases h
        · rename_i h4
          cases hh : nearB x.amount y.amount 0
          · rw [hh] at h4; simp at h4
          · exact near_zero hh
theorem fit_ways {p q : Int} {x y : Nt} {zs : List ByteArray} {tol : Int} (h : (fitE p q x y zs tol).2 = true) : x.receive = false ∧ y.receive = true := by
  unfold fitE at h
  split at h
  · cases h
  · rename_i h1
    unfold unlike at h1
    simp at h1
    exact ⟨h1.1.1.1.1.1.1.1.1, h1.1.1.1.1.1.1.1.2⟩
end Go.Proofs.YtphabkaiheplpaaGreatDoor
