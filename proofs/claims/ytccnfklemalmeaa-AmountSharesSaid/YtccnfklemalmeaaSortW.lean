/- The small functions of slices' stable sort, walked: an exchange of two ranges, a rotation, an insertion sort. -/
import Derived.Test.YtccnfklemalmeaaProg
import Derived.WalkKit
import Derived.Test.YtccnfklemalmeaaSortP
import Derived.Shelf.SlSortCmp.Insertion1
import Derived.Sort.WalkA
import Derived.Sort.WalkB2
import Derived.Sort.WalkB12
import Derived.Deep.LoopGhost
import Derived.BigRegion
import Derived.Lib.Hide
import Derived.BigQuiet
set_option linter.unusedVariables false
set_option linter.unusedSimpArgs false
set_option maxRecDepth 100000
namespace Go.Proofs.Ytccnfklemalmeaa
open Go.RowKit Go.Sort Go.Lib Go.Shelf

theorem nn_wrap {n : Nat} (h : n < 9223372036854775808) : IntKind.i64.wrap (n : Int) = (n : Int) := by rw [IntKind.wrap_i64]; omega

theorem swapRange_any {enc : Nat → Value} {w0 : World} {blk off : Nat} {d0 : Array Nat} (R : Row1 enc w0 blk off d0) (cap a b n : Nat) (fv : Value) (d : Array Nat) (w : World) (hs : d.size = d0.size) (S : SW enc w0 blk off d w) (hab : a + n ≤ b) (hb : b + n ≤ d.size) (hsz : d.size < 4611686018427387904) :
    Calls Try.prog 26 #[.slice (some ⟨blk, off, none⟩) d.size cap, .int .i64 a, .int .i64 b, .int .i64 n, fv] w fun e w' => e = .returned (.tuple #[]) ∧ ∃ d', SW enc w0 blk off d' w' ∧ SwR a b n d d' := by
  have hcl0 := R.hO.cells
  simp only [Value.cells] at hcl0
  have hst := R.hO.store Try.prog
  have S0 : Aside (SW enc w0 blk off d w) := S
  have S00 : Aside (SwR a b 0 d d) := SwR.zero a b d
  clear S
  go_enter Try.func26, Try.ntmps26
  go_wp2
  go_loopg [10] n (fun g vi wr => ∃ (i : Nat) (dk : Array Nat), vi = .int .i64 i ∧ i ≤ n ∧ n - i ≤ g ∧ dk.size = d.size ∧ Aside (SW enc w0 blk off dk wr) ∧ Aside (SwR a b i d dk))
  case atStart => exact ⟨0, d, rfl, by omega, by omega, rfl, S0, S00⟩
  case round =>
    clear S0 S00
    obtain ⟨i, dk, rfl, hin, hg, hsk, S1, HR⟩ := hrel
    by_cases hlt : i < n
    · have hltz : (i : Int) < (n : Int) := by omega
      obtain ⟨iN, hiN⟩ : ∃ q, q = a + i := ⟨_, rfl⟩
      obtain ⟨jN, hjN⟩ : ∃ q, q = b + i := ⟨_, rfl⟩
      have ea : (a : Int) + (i : Int) = (iN : Int) := by omega
      have eb : (b : Int) + (i : Int) = (jN : Int) := by omega
      have ra : IntKind.i64.wrap (iN : Int) = (iN : Int) := nn_wrap (by omega)
      have rb : IntKind.i64.wrap (jN : Int) = (jN : Int) := nn_wrap (by omega)
      have ba : (iN : Int) < (d.size : Int) := by omega
      have bb : (jN : Int) < (d.size : Int) := by omega
      obtain ⟨x, hx⟩ : ∃ x, x = dk[iN]! := ⟨_, rfl⟩
      obtain ⟨y, hy⟩ : ∃ x, x = dk[jN]! := ⟨_, rfl⟩
      have S3 : Aside (SW enc w0 blk off (swp dk iN jN) ((wr.setCell ⟨blk, off + iN, none⟩ (enc y)).setCell ⟨blk, off + jN, none⟩ (enc x)).drew) := by rw [hx, hy]; exact S1.out.swapped R iN jN (by omega) (by omega)
      have ca := S1.out.c1 R (by omega) iN (by omega)
      have cb := S1.out.c1 R (by omega) jN (by omega)
      have fa := S1.out.f1 R (by omega) iN (by omega)
      have fb := S1.out.f1 R (by omega) jN (by omega)
      obtain ⟨u, cc⟩ := S1.out.c2 R (by omega) iN jN (by omega) (by omega) (enc y)
      rw [← hx] at ca
      rw [← hy] at cb
      have HR2 : Aside (SwR a b (i + 1) d (swp dk iN jN)) := by rw [hiN, hjN]; exact HR.out.step (by omega) (by omega)
      clear S1 hx hy hiN hjN HR
      go_wp2_with fail
      go_big_region
      clear ca cb cc fa fb
      generalize ((wr.setCell ⟨blk, off + iN, none⟩ (enc y)).setCell ⟨blk, off + jN, none⟩ (enc x)).drew = w3 at S3 ⊢
      go_wp2
      go_roundg (n - (i + 1))
      case measure => omega
      case rel => exact ⟨i + 1, swp dk iN jN, by go_num, by omega, by omega, by rw [size_swp]; exact hsk, S3, HR2⟩
    · have hltz : ¬ (i : Int) < (n : Int) := by omega
      obtain rfl : i = n := by omega
      go_wp2
      go_end0
      exact ⟨rfl, dk, S1.out, HR.out⟩

/-- This program's own insertion sort is the library's. -/
def ins_ren : Go.Shelf.Ren := ⟨fun | 20 => 22 | n => n, fun | 3 => 3 | 4 => 4 | 22 => 44 | 24 => 3 | 25 => 48 | n => n, fun n => n⟩
theorem ins_lays : SlLaysF.n20 Try.prog ins_ren := {
  mixed := by kernel_rfl
  f20 := ⟨Try.f22.name, by decide +kernel, Try.func22.trans (congrArg some (by kernel_rfl))⟩
  t0 := Try.underlying0
  a0 := Try.isAgg0
  z0 := Try.sizeOf0
  v0 := Try.zeroValue0
  t3 := Try.underlying3
  a3 := Try.isAgg3
  z3 := Try.sizeOf3
  v3 := Try.zeroValue3
  t4 := Try.underlying4
  a4 := Try.isAgg4
  z4 := Try.sizeOf4
  v4 := Try.zeroValue4
  t22 := Try.underlying44
  a22 := Try.isAgg44
  z22 := Try.sizeOf44
  v22 := Try.zeroValue44
  a24 := Try.isAgg3
  z24 := Try.sizeOf3
  t25 := Try.underlying48
  a25 := Try.isAgg48
  z25 := Try.sizeOf48
  v25 := Try.zeroValue48 }
theorem insertion_any {enc : Nat → Value} {w0 : World} {blk off : Nat} {d0 : Array Nat} (R : Row1 enc w0 blk off d0) (cf : Nat → Nat → Int) (g : Nat) (cb : Array Value) (cap a b : Nat) (d : Array Nat) (w : World)
    (eg : ∀ args w, (callFunc g args).run Try.prog w = .ok (.enter g args) w) (hcmp : CmpLays1 Try.prog g cb enc cf blk off d0.size w0) (hs : d.size = d0.size) (S : SW enc w0 blk off d w) (hab : a ≤ b) (hb : b ≤ d.size) (hsz : d.size < 4611686018427387904) :
    Calls Try.prog 22 #[.slice (some ⟨blk, off, none⟩) d.size cap, .int .i64 a, .int .i64 b, .func (.func g) #[] cb] w fun e w' => e = .returned (.tuple #[]) ∧ SW enc w0 blk off (Sort.insertionSort (fun x y => decide (cf x y < 0)) d a b) w' :=
  Any.insertionSortCmpFunc_s ins_lays enc cf g cb blk off cap a b d0 d w0 w eg hcmp R hs.symm S hab hb hsz

theorem rotate_any {enc : Nat → Value} {w0 : World} {blk off : Nat} {d0 : Array Nat} (R : Row1 enc w0 blk off d0) (cap a m b : Nat) (fv : Value) (d : Array Nat) (w : World) (hs : d.size = d0.size) (S : SW enc w0 blk off d w) (ham : a < m) (hmb : m < b) (hb : b ≤ d.size) (hsz : d.size < 4611686018427387904) :
    Calls Try.prog 25 #[.slice (some ⟨blk, off, none⟩) d.size cap, .int .i64 a, .int .i64 m, .int .i64 b, fv] w fun e w' => e = .returned (.tuple #[]) ∧ ∃ d', SW enc w0 blk off d' w' ∧ RotIn a m b d d' := by
  have S0 : Aside (SW enc w0 blk off d w) := S
  obtain ⟨i0, hi0⟩ : ∃ q, a + q = m := ⟨m - a, by omega⟩
  obtain ⟨j0, hj0⟩ : ∃ q, m + q = b := ⟨b - m, by omega⟩
  have ei : IntKind.i64.wrap ((m : Int) - (a : Int)) = (i0 : Int) := by rw [IntKind.wrap_i64]; omega
  have ej : IntKind.i64.wrap ((b : Int) - (m : Int)) = (j0 : Int) := by rw [IntKind.wrap_i64]; omega
  have I0 : Aside (∀ d', RotIn (m - i0) m (m + j0) d d' → RotIn a m b d d') := fun d' h => by
    have e1 : m - i0 = a := by omega
    have e2 : m + j0 = b := by omega
    rw [e1, e2] at h
    exact h
  have HS := Lib.hid hs
  clear S hs
  go_enter Try.func25, Try.ntmps25
  go_wp2
  go_loopg [10, 11] (i0 + j0) (fun g vi vj wr => ∃ (i j : Nat) (dk : Array Nat), vi = .int .i64 i ∧ vj = .int .i64 j ∧ 0 < i ∧ 0 < j ∧ i ≤ i0 ∧ j ≤ j0 ∧ i + j ≤ g ∧ dk.size = d.size ∧ Aside (SW enc w0 blk off dk wr) ∧ Aside (∀ d', RotIn (m - i) m (m + j) dk d' → RotIn a m b d d'))
  case atStart => exact ⟨i0, j0, d, rfl, rfl, by omega, by omega, by omega, by omega, by omega, rfl, S0, I0⟩
  case round =>
    clear S0 I0
    obtain ⟨i, j, dk, rfl, rfl, hi1, hj1, hi2, hj2, hg, hsk, S1, I1⟩ := hrel
    obtain ⟨p, hp⟩ : ∃ q, q + i = m := ⟨m - i, by omega⟩
    have hpm : m - i = p := by omega
    have HPM := Lib.hid hpm
    clear hpm
    have ep : (m : Int) - (i : Int) = (p : Int) := by omega
    have rp : IntKind.i64.wrap (p : Int) = (p : Int) := nn_wrap (by omega)
    by_cases hne : i = j
    · subst hne
      have SWP := Lib.hid (swapRange_any R cap p m i fv dk wr (hsk.trans HS.out) S1.out (by omega) (by omega) (by omega))
      rw [hsk] at SWP
      go_wp2_with (first | (go_at_call 26; with_reducible refine (SWP.out).mono ?_; rintro e w1 ⟨rfl, d', S2, h2⟩))
      go_end0
      refine ⟨rfl, d', S2, I1.out d' ?_⟩
      rw [HPM.out]
      exact rot_end (by omega) h2
    · have hnb : ((i : Int) == (j : Int)) = false := by simp; omega
      by_cases hgt : j < i
      · have hgz : (j : Int) < (i : Int) := by omega
        have SWP := Lib.hid (swapRange_any R cap p m j fv dk wr (hsk.trans HS.out) S1.out (by omega) (by omega) (by omega))
        rw [hsk] at SWP
        obtain ⟨i2, hi3⟩ : ∃ q, q + j = i := ⟨i - j, by omega⟩
        have ei2 : (i : Int) - (j : Int) = (i2 : Int) := by omega
        have ri2 : IntKind.i64.wrap (i2 : Int) = (i2 : Int) := nn_wrap (by omega)
        go_wp2_with (first | (go_at_call 26; with_reducible refine (SWP.out).mono ?_; rintro e w1 ⟨rfl, d2, S2, h2⟩))
        go_roundg (i2 + j)
        case measure => omega
        case rel => exact ⟨i2, j, d2, rfl, rfl, by omega, by omega, by omega, by omega, by omega, h2.2.2.1.trans hsk, S2, fun d' h' => I1.out d' (by
          have e1 : m - i2 = p + j := by omega
          rw [e1] at h'
          rw [HPM.out]
          exact rot_left h2 (by omega) (by omega) h')⟩
      · have hgz : ¬ (j : Int) < (i : Int) := by omega
        obtain ⟨q, hq⟩ : ∃ q, q + i = m + j := ⟨m + j - i, by omega⟩
        have SWP := Lib.hid (swapRange_any R cap p q i fv dk wr (hsk.trans HS.out) S1.out (by omega) (by omega) (by omega))
        rw [hsk] at SWP
        obtain ⟨j2, hj3⟩ : ∃ q, q + i = j := ⟨j - i, by omega⟩
        have ej2 : (j : Int) - (i : Int) = (j2 : Int) := by omega
        have rj2 : IntKind.i64.wrap (j2 : Int) = (j2 : Int) := nn_wrap (by omega)
        have eq1 : (m : Int) + (j : Int) - (i : Int) = (q : Int) := by omega
        have rq : IntKind.i64.wrap (q : Int) = (q : Int) := nn_wrap (by omega)
        have rmj : IntKind.i64.wrap ((m : Int) + (j : Int)) = (m : Int) + (j : Int) := by rw [IntKind.wrap_i64]; omega
        go_wp2_with (first | (go_at_call 26; with_reducible refine (SWP.out).mono ?_; rintro e w1 ⟨rfl, d2, S2, h2⟩))
        go_roundg (i + j2)
        case measure => omega
        case rel => exact ⟨i, j2, d2, rfl, rfl, by omega, by omega, by omega, by omega, by omega, h2.2.2.1.trans hsk, S2, fun d' h' => I1.out d' (by
          have e2 : q = m + j - i := by omega
          have e3 : j2 = j - i := by omega
          rw [HPM.out] at h' ⊢
          rw [e2] at h2
          rw [e3] at h'
          exact rot_right (by omega) h2 (by omega) (by omega) h')⟩
end Go.Proofs.Ytccnfklemalmeaa
