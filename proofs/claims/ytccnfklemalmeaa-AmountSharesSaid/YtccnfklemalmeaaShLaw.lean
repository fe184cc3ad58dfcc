/- The law of shares by its walk: where n may not be dealt out there is an error and no part; where it may, all that is asked of the parts holds. -/
import Derived.Test.YtccnfklemalmeaaShRest
set_option linter.unusedVariables false
set_option linter.unusedSimpArgs false
set_option maxRecDepth 100000
namespace Go.Proofs.Ytccnfklemalmeaa
open Go.RowKit Go.Lib

theorem neq_yes {E : GErr} (hE : E.isNil = false) (w : World) : (binOp .neq 24 E.val .nilIface).run Try.prog w = .ok (.bool true) w := by
  rw [neq_nil_err, hE]
  rfl
theorem split_no (A0 : Option Addr) (l c : Nat) (xs : List Int) (n : Int) (w : World) (hr : RdI w .i64 A0 l xs) (hl : l * 8 ≤ 140737488351232) (hin : In64 xs) (hf : ¬ FitS n xs) :
    Calls Try.prog 5 #[.int .i64 n, .slice A0 l c] w fun e w' => ∃ E : GErr, e = .returned (.tuple #[.slice none 0 0, E.val]) ∧ E.isNil = false ∧ Below w.heap.size w w' :=
  (split_bad A0 l c xs n w hr hl hin hf).mono fun e w' h => h
theorem law_bad (A0 : Option Addr) (l c : Nat) (xs : List Int) (n by_ : Int) (w : World) (hr : RdI w .i64 A0 l xs) (hl : l * 8 ≤ 140737488351232) (hin : In64 xs) (hf : ¬ FitS n xs) :
    Calls Try.prog 3 #[.int .i64 n, .slice A0 l c, .int .i64 by_] w fun e w' => e = .returned (.bool true) ∧ Below w.heap.size w w' := by
  have SM0 : Calls Try.prog 4 #[.slice A0 l c] w fun e w' => ∃ E : GErr, e = .returned (.tuple #[.int .i64 (sumV xs), E.val]) ∧ Below w.heap.size w w' :=
    (sum_s64 A0 l c xs w hr hl hin).mono fun e w' ⟨E, he, _, _, hb⟩ => ⟨E, he, hb⟩
  have SM := Lib.hid SM0
  clear SM0
  have HR := Lib.hid hr
  clear hr
  go_enter Try.func3, Try.ntmps3
  go_wp2_with (first
    | (go_at_call 4; with_reducible refine (SM.out).mono ?_; rintro e w1 ⟨E1, rfl, hb1⟩; have HB1 := Lib.hid hb1; clear hb1)
    | (go_at_call 5; with_reducible refine (split_no A0 l c xs n _ (HR.out.below HB1.out) hl hin hf).mono ?_; rintro e w2 ⟨E, rfl, hE, hb2⟩; have HB2 := Lib.hid (bl_then HB1.out hb2); clear hb2; have gE := guard_errN E; have nE := neq_yes hE)
    | (go_at_call 6; with_reducible refine (fit_no n A0 l c xs _ (HR.out.below HB2.out) hin hf).mono ?_; rintro e w3 ⟨rfl, rfl⟩))
  go_ret
  exact ⟨rfl, HB2.out⟩

theorem FitF.fits {n : Int} {xs : List Int} (h : FitF n xs) : FitS n xs := by
  have H : ∀ x ∈ xs, 0 ≤ x := fun x hx => by
    obtain ⟨k, hk, e⟩ := List.getElem_of_mem hx
    have := h.w0 k
    simp only [List.getD_eq_getElem?_getD, List.getElem?_eq_getElem hk, Option.getD_some] at this
    omega
  refine ⟨h.n0, ?_, ?_, h.t1⟩
  · rw [List.any_eq_false]
    intro x hx
    have := H x hx
    simpa using this
  · by_cases e : xs.any (fun x => decide (0 < x)) = true
    · exact e
    · exfalso
      have e' : ∀ x ∈ xs, ¬ 0 < x := by
        intro x hx hp
        exact e (List.any_eq_true.2 ⟨x, hx, by simpa using hp⟩)
      have z : ∀ (ys : List Int), (∀ x ∈ ys, x ∈ xs) → theSum ys = 0 := by
        intro ys
        induction ys with
        | nil => intro _; rfl
        | cons y r ih =>
          intro hy
          have a := H y (hy y (by simp))
          have b := e' y (hy y (by simp))
          have := ih fun x hx => hy x (by simp [hx])
          simp only [theSum]
          omega
      have := z xs fun x hx => hx
      have := h.t0
      omega
theorem mul_down {n x T : Int} (h0 : 0 ≤ n) (h1 : n ≤ 9223372036854775807) (hx0 : 0 ≤ x) (hx1 : x ≤ T) (hT : 0 < T) (hT1 : T ≤ 9223372036854775807) (hq : n * x / T ≤ 9223372036854775807) (w : World) :
    Calls Try.prog 7 #[.int .i64 n, .int .i64 x, .int .i64 T, .int .i64 0] w fun e w' => e = .returned (.tuple #[.int .i64 (n * x / T), .nilIface]) ∧ Below w.heap.size w w' :=
  (mulDiv_any n x T 0 ⟨by omega, h1⟩ ⟨by omega, by omega⟩ ⟨by omega, hT1⟩ ⟨by omega, by omega⟩ w).mono fun e w' ⟨E, he, hok, hE, hb⟩ => by
    have nb : ¬ mdBad n x T 0 := by unfold mdBad; omega
    have nu : mdQ n x T 0 = n * x / T := if_neg (by unfold mdUp; omega)
    obtain ⟨e1, e2⟩ := md_good nb (by rw [nu]; omega)
    rw [e1] at hE
    rw [e2, nu, GErr.nil_of hok hE] at he
    exact ⟨he, hb⟩

/-- A row of whole numbers in a block of one's own. -/
structure RowI (w W : World) (g l : Nat) (Q : Nat → Int) : Prop where
  below : Below w.heap.size w W
  lo : w.heap.size ≤ g
  ce : ∀ j, j < l → W.cell? ⟨g, j, none⟩ = some (.int .i64 (Q j))
  fr : ∀ j, W.frozen? ⟨g, j, none⟩ = false
theorem RowI.set {w W : World} {g l : Nat} {Q : Nat → Int} (h : RowI w W g l Q) {i : Nat} (hi : i < l) (x : Int) : RowI w (W.setCell ⟨g, i, none⟩ (.int .i64 x)) g l (upd Q i x) := by
  refine ⟨bl_set h.below (by exact h.lo) _, h.lo, fun j hj => ?_, fun j => by rw [World.frozen?_setCell]; exact h.fr j⟩
  by_cases e : j = i
  · subst e; rw [upd_same]; exact World.cell?_setCell_same _ _ _ (h.ce j hj)
  · rw [upd_other _ _ e, World.cell?_setCell_other _ _ _ _ (fun e' => by injection e'; omega)]; exact h.ce j hj
theorem RowI.of_own {w W : World} {v : Value} {l : Nat} {xs : List Int} (h : W.ownsRow w.heap.size 2 1 v l (ints .i64 xs)) (hb : Below w.heap.size w W) (hl : xs.length = l) (l0 : 0 < l) : ∃ g cap, v = .slice (some ⟨g, 0, none⟩) l cap ∧ RowI w W g l (fun j => xs.getD j 0) := by
  have h' := h
  rcases h.2 with ⟨_, z⟩ | ⟨g, cap, cur, rfl, hg, hc, _⟩
  · omega
  · refine ⟨g, cap, rfl, hb, hg, fun j hj => by rw [← add_zero g j]; exact h'.cells (g := g) rfl j _ (ints_at .i64 xs (by omega)), fun j => ?_⟩
    simp [World.frozen?, hc]
end Go.Proofs.Ytccnfklemalmeaa
