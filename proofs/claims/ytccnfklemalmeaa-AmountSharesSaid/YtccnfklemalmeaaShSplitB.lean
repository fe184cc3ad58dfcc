/- amount.Split where n may not be dealt out: no parts and an error. Split by one contract. -/
import Derived.Test.YtccnfklemalmeaaShSplit
set_option linter.unusedVariables false
set_option linter.unusedSimpArgs false
set_option maxRecDepth 100000
namespace Go.Proofs.Ytccnfklemalmeaa
open Go.RowKit Go.Sort Go.Lib Go.Shelf

/-- No parts, and an error. -/
def NoParts (w : World) (e : Ending) (w' : World) : Prop := ∃ E : GErr, e = .returned (.tuple #[.slice none 0 0, E.val]) ∧ E.isNil = false ∧ Below w.heap.size w w'
theorem sum_unfit (A0 : Option Addr) (l c : Nat) (xs : List Int) (w : World) (hr : RdI w .i64 A0 l xs) (hl : l * 8 ≤ 140737488351232) (hin : In64 xs) (h2 : 9223372036854775807 < theSum xs) :
    Calls Try.prog 4 #[.slice A0 l c] w fun e w' => ∃ E : GErr, e = .returned (.tuple #[.int .i64 0, E.val]) ∧ E.isNil = false ∧ Below w.heap.size w w' :=
  (sum_s64 A0 l c xs w hr hl hin).mono fun e w' ⟨E, he, hok, hE, hb⟩ => by
    have e1 : sumE xs = 9 := if_neg (by omega)
    have e2 : sumV xs = 0 := if_neg (by omega)
    rw [e1] at hE
    rw [e2] at he
    exact ⟨E, he, GErr.isNil_false fun h => by rw [h] at hE; simp [GErr.num] at hE, hb⟩

theorem split_bad (A0 : Option Addr) (l c : Nat) (xs : List Int) (n : Int) (w : World) (hr : RdI w .i64 A0 l xs) (hl : l * 8 ≤ 140737488351232) (hin : In64 xs) (hf : ¬ FitS n xs) :
    Calls Try.prog 5 #[.int .i64 n, .slice A0 l c] w (NoParts w) := by
  have C1 := containsFunc_any 12 _ enters_neg neg_any A0 l c xs w hr
  have C2 := containsFunc_any 13 _ enters_pos pos_any A0 l c xs w hr
  by_cases n0 : n < 0
  · clear C1 C2
    go_enter Try.func5, Try.ntmps5
    go_wp2
    go_ret2
    exact ⟨.no 1, rfl, rfl, bl_refl _⟩
  · cases hn : xs.any (fun x => decide (x < 0)) with
    | true =>
      rw [hn] at C1
      have H1 := Lib.hid C1
      clear C1 C2 hn
      go_enter Try.func5, Try.ntmps5
      go_wp2_with (first | (go_at_call 11; with_reducible refine (H1.out).mono ?_; rintro e w1 ⟨rfl, rfl⟩))
      go_ret2
      exact ⟨.no 1, rfl, rfl, bl_refl _⟩
    | false =>
      cases hp : xs.any (fun x => decide (0 < x)) with
      | false =>
        rw [hn] at C1
        rw [hp] at C2
        have H1 := Lib.hid C1
        have H2 := Lib.hid C2
        clear C1 C2 hn hp
        go_enter Try.func5, Try.ntmps5
        go_wp2_with (first | (go_at_call 11; first | (with_reducible refine (H1.out).mono ?_; rintro e w1 ⟨rfl, rfl⟩) | (with_reducible refine (H2.out).mono ?_; rintro e w1 ⟨rfl, rfl⟩)))
        go_ret2
        exact ⟨.no 1, rfl, rfl, bl_refl _⟩
      | true =>
        have hs : 9223372036854775807 < theSum xs := by
          by_cases z : theSum xs ≤ 9223372036854775807
          · exact absurd ⟨by omega, hn, hp, z⟩ hf
          · omega
        have SM := sum_unfit A0 l c xs w hr hl hin hs
        rw [hn] at C1
        rw [hp] at C2
        have H1 := Lib.hid C1
        have H2 := Lib.hid C2
        have H3 := Lib.hid SM
        clear C1 C2 hn hp SM
        go_enter Try.func5, Try.ntmps5
        go_wp2_with (first | (go_at_call 11; first | (with_reducible refine (H1.out).mono ?_; rintro e w1 ⟨rfl, rfl⟩) | (with_reducible refine (H2.out).mono ?_; rintro e w1 ⟨rfl, rfl⟩)) | (go_at_call 4; with_reducible refine (H3.out).mono ?_; rintro e w1 ⟨E, rfl, hE, hb⟩; have gE := guard_errN E; have nE := neq_nil_err E; rw [hE] at nE))
        go_ret2
        exact ⟨E, rfl, hE, hb⟩
end Go.Proofs.Ytccnfklemalmeaa
