/- slices.ContainsFunc over whole numbers; the comparison of two rests. -/
import Derived.Test.YtccnfklemalmeaaShSum
import Derived.Test.YtccnfklemalmeaaSortP
import Derived.Shelf.SlSortCmp.Insertion1
import Derived.BigRegion
import Derived.BigQuiet
set_option linter.unusedVariables false
set_option linter.unusedSimpArgs false
set_option maxRecDepth 100000
namespace Go.Proofs.Ytccnfklemalmeaa
open Go.RowKit Go.Sort Go.Lib Go.Shelf

theorem enters (f : FuncId) (F : Func) (hf : Try.prog.funcs[f]? = some F) (hn : (F.name == "runtime.NumGoroutine") = false) {c : Code} (hb : F.body = some c) (args : Array Value) (w : World) : (callFunc f args).run Try.prog w = .ok (.enter f args) w := enters_of hf hn hb args w
theorem enters_less (args : Array Value) (w : World) : (callFunc 16 args).run Try.prog w = .ok (.enter 16 args) w :=
  enters_of Try.func16 (by kernel_rfl) rfl args w
theorem enters_neg (args : Array Value) (w : World) : (callFunc 12 args).run Try.prog w = .ok (.enter 12 args) w :=
  enters_of Try.func12 (by kernel_rfl) rfl args w
theorem enters_pos (args : Array Value) (w : World) : (callFunc 13 args).run Try.prog w = .ok (.enter 13 args) w :=
  enters_of Try.func13 (by kernel_rfl) rfl args w

theorem neg_any (x : Int) (w : World) : Calls Try.prog 12 #[.int .i64 x] w fun e w' => e = .returned (.bool (decide (x < 0))) ∧ w = w' := by
  go_enter Try.func12, Try.ntmps12
  go_wp2
  go_ret
  exact ⟨rfl, rfl⟩
theorem pos_any (x : Int) (w : World) : Calls Try.prog 13 #[.int .i64 x] w fun e w' => e = .returned (.bool (decide (0 < x))) ∧ w = w' := by
  go_enter Try.func13, Try.ntmps13
  go_wp2
  go_ret
  exact ⟨rfl, rfl⟩

theorem any_next {p : Int → Bool} {xs : List Int} {k : Nat} (hk : k < xs.length) (h : (xs.take k).any p = false) (hp : p (xs.getD k 0) = false) : (xs.take (k + 1)).any p = false := by
  rw [take_next xs k hk, List.any_append, h]
  simpa [List.getD_eq_getElem?_getD] using hp
theorem any_here {p : Int → Bool} {xs : List Int} {k : Nat} (hk : k < xs.length) (hp : p (xs.getD k 0) = true) : xs.any p = true := by
  rw [List.any_eq_true]
  exact ⟨xs.getD k 0, by simp [List.getD_eq_getElem?_getD, hk], hp⟩

theorem indexFunc_any (g : Nat) (p : Int → Bool) (eg : ∀ args w, (callFunc g args).run Try.prog w = .ok (.enter g args) w) (hp : ∀ x w, Calls Try.prog g #[.int .i64 x] w fun e w' => e = .returned (.bool (p x)) ∧ w = w')
    (A0 : Option Addr) (n c : Nat) (xs : List Int) (w : World) (hr : RdI w .i64 A0 n xs) :
    Calls Try.prog 17 #[.slice A0 n c, .func (.func g) #[] #[]] w fun e w' => (∃ r : Int, e = .returned (.int .i64 r) ∧ decide (0 ≤ r) = xs.any p) ∧ w = w' := by
  obtain ⟨hl, hm, hc⟩ := hr
  have HC := Lib.hid hc
  have HL := Lib.hid hl
  clear hc hl
  go_enter Try.func17, Try.ntmps17
  go_wp2
  go_loopg [8] n (fun gg vi wr => ∃ (k : Nat), vi = .int .i64 k ∧ k ≤ n ∧ n - k ≤ gg ∧ wr = w ∧ Hid ((xs.take k).any p = false))
  case atStart => exact ⟨0, rfl, by omega, by omega, rfl, (show _ = _ from rfl)⟩
  case round =>
    obtain ⟨k, rfl, hk, hg, rfl, HA⟩ := hrel
    by_cases hlt : k < n
    · have hltz : (k : Int) < (n : Int) := by omega
      obtain ⟨ad, rfl, hcell⟩ := HC.out (by omega)
      have hck := hcell k hlt
      have hkx : k < xs.length := by have := HL.out; omega
      have HX := Lib.hid hkx
      obtain ⟨x, hx⟩ : ∃ x, x = xs.getD k 0 := ⟨_, rfl⟩
      rw [← hx] at hck
      have HXE := Lib.hid hx
      have hpx := Lib.hid (hp x wr)
      clear hcell hkx hx
      cases hv : p x with
      | true =>
        rw [hv] at hpx
        have HY := Lib.hid (any_here (p := p) HX.out (by rw [← HXE.out]; exact hv))
        clear hv
        go_wp2_with (first | (go_at_fn g; with_reducible refine (hpx.out).mono ?_; rintro e w1 ⟨rfl, rfl⟩))
        go_ret
        exact ⟨⟨k, rfl, by rw [HY.out]; simp⟩, rfl⟩
      | false =>
        rw [hv] at hpx
        have HY := Lib.hid (any_next (p := p) HX.out HA.out (by rw [← HXE.out]; exact hv))
        clear hv
        go_wp2_with (first | (go_at_fn g; with_reducible refine (hpx.out).mono ?_; rintro e w1 ⟨rfl, rfl⟩))
        go_roundg (n - (k + 1))
        case measure => omega
        case rel => exact ⟨k + 1, by go_num, by omega, by omega, rfl, HY.out⟩
    · obtain rfl : k = n := by omega
      have hlz : ¬ (k : Int) < (k : Int) := by omega
      have hA : xs.any p = false := by
        have := HA.out
        rw [List.take_of_length_le (by have := HL.out; omega)] at this
        exact this
      have HB := Lib.hid hA
      clear hA
      go_wp2
      go_ret
      exact ⟨⟨-1, rfl, by rw [HB.out]; rfl⟩, rfl⟩

theorem containsFunc_any (g : Nat) (p : Int → Bool) (eg : ∀ args w, (callFunc g args).run Try.prog w = .ok (.enter g args) w) (hp : ∀ x w, Calls Try.prog g #[.int .i64 x] w fun e w' => e = .returned (.bool (p x)) ∧ w = w')
    (A0 : Option Addr) (n c : Nat) (xs : List Int) (w : World) (hr : RdI w .i64 A0 n xs) :
    Calls Try.prog 11 #[.slice A0 n c, .func (.func g) #[] #[]] w fun e w' => e = .returned (.bool (xs.any p)) ∧ w = w' := by
  have H := Lib.hid (indexFunc_any g p eg hp A0 n c xs w hr)
  clear hr
  go_enter Try.func11, Try.ntmps11
  go_wp2_with (first | (go_at_call 17; with_reducible refine (H.out).mono ?_; rintro e w1 ⟨⟨r, rfl, hr⟩, rfl⟩))
  go_ret
  exact ⟨rfl, rfl⟩
end Go.Proofs.Ytccnfklemalmeaa
