/- The comparison that Split hands the sort: of two places by their rests. -/
import Derived.Test.YtccnfklemalmeaaShFuncs
import Derived.Test.YtccnfklemalmeaaStable
set_option linter.unusedVariables false
set_option linter.unusedSimpArgs false
set_option maxRecDepth 100000
namespace Go.Proofs.Ytccnfklemalmeaa
open Go.RowKit Go.Sort Go.Lib Go.Shelf

/-- What the comparison reads. -/
structure Rests (W : World) (box rb n c : Nat) (rs : Nat → Int) : Prop where
  hb : W.cell? ⟨box, 0, none⟩ = some (.slice (some ⟨rb, 0, none⟩) n c)
  hc : ∀ k, k < n → W.cell? ⟨rb, k, none⟩ = some (.int .u64 (rs k))

theorem less_any (box rb n c i j : Nat) (rs : Nat → Int) (W : World) (hR : Rests W box rb n c rs) (hi : i < n) (hj : j < n) (hn : n < 2305843009213693952) :
    Calls Try.prog 16 #[.int .i64 i, .int .i64 j, .pointer (some ⟨box, 0, none⟩)] W fun e w' => e = .returned (.int .i64 (if rs j < rs i then -1 else if rs i < rs j then 1 else 0)) ∧ ∃ q, w' = W.drewN q := by
  have mixed : Try.prog.follows .mixedOrders = true := by kernel_rfl
  have hb := hR.hb
  have h1 := hR.hc i hi
  have h2 := hR.hc j hj
  generalize rs i = x at h1 ⊢
  generalize rs j = y at h2 ⊢
  have b1 : (i : Int) < (n : Int) := by omega
  have b2 : (j : Int) < (n : Int) := by omega
  clear hR
  by_cases h : y < x
  · rw [if_pos h]
    go_enter Try.func16, Try.ntmps16
    go_wp2_with fail
    go_quiet (fail)
    go_wp2
    go_ret
    exact ⟨rfl, _, rfl⟩
  · rw [if_neg h]
    by_cases h3 : x < y
    · rw [if_pos h3]
      go_enter Try.func16, Try.ntmps16
      go_wp2_with fail
      go_quiet (fail)
      obtain ⟨q1, hq1⟩ : ∃ q, nq = q := ⟨_, rfl⟩
      rw [hq1]
      clear hq1
      have hb' : (W.drewN q1).cell? ⟨box, 0, none⟩ = _ := hb
      have h1' : (W.drewN q1).cell? ⟨rb, i, none⟩ = _ := h1
      have h2' : (W.drewN q1).cell? ⟨rb, j, none⟩ = _ := h2
      clear hb h1 h2
      obtain ⟨W2, hW2⟩ : ∃ W2, W2 = W.drewN q1 := ⟨_, rfl⟩
      rw [← hW2] at hb' h1' h2' ⊢
      have HW := Lib.hid hW2
      clear hW2
      go_wp2_with fail
      go_quiet (fail)
      go_wp2
      go_ret
      exact ⟨rfl, q1 + nq, by rw [HW.out]; exact (World.drewN_drewN _ _ _)⟩
    · rw [if_neg h3]
      go_enter Try.func16, Try.ntmps16
      go_wp2_with fail
      go_quiet (fail)
      obtain ⟨q1, hq1⟩ : ∃ q, nq = q := ⟨_, rfl⟩
      rw [hq1]
      clear hq1
      have hb' : (W.drewN q1).cell? ⟨box, 0, none⟩ = _ := hb
      have h1' : (W.drewN q1).cell? ⟨rb, i, none⟩ = _ := h1
      have h2' : (W.drewN q1).cell? ⟨rb, j, none⟩ = _ := h2
      clear hb h1 h2
      obtain ⟨W2, hW2⟩ : ∃ W2, W2 = W.drewN q1 := ⟨_, rfl⟩
      rw [← hW2] at hb' h1' h2' ⊢
      have HW := Lib.hid hW2
      clear hW2
      go_wp2_with fail
      go_quiet (fail)
      go_wp2
      go_ret
      exact ⟨rfl, q1 + nq, by rw [HW.out]; exact (World.drewN_drewN _ _ _)⟩
end Go.Proofs.Ytccnfklemalmeaa
