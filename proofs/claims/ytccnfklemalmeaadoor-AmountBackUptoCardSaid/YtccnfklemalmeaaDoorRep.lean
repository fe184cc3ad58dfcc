/- strings.Repeat of a nought, so many times as a scale can ask. -/
import Derived.Test.YtccnfklemalmeaaDoorStrs
set_option linter.unusedVariables false
set_option linter.unusedSimpArgs false
set_option maxRecDepth 100000
namespace Go.Proofs.YtccnfklemalmeaaDoor
open Go.RowKit Go.Proofs.YtccnfklemalmeaaDoor.Tp Go.Proofs.YtccnfklemalmeaaDoorW.PrintWords

theorem mul_one (c : Nat) (hc : c ≤ 18) (w : World) : Calls Tryd.prog 102 #[.int .u64 1, .int .u64 c] w fun e w' => e = .returned (.tuple #[.int .u64 0, .int .u64 c]) ∧ w = w' := by
  refine (Tryd.bits_Mul 1 c (by omega) (by omega) w).mono fun e w' ⟨he, hw⟩ => ⟨?_, hw.symm⟩
  rw [he, show 1 * c / 18446744073709551616 = 0 by omega, show 1 * c % 18446744073709551616 = c by omega]
  rfl
theorem hp_any (s p : ByteArray) (b : Bool) (h : Lib.hasPrefix s.data.toList p.data.toList = b) (w : World) : Calls Tryd.prog 103 #[.string s, .string p] w fun e w' => e = .returned (.bool b) ∧ w = w' :=
  (Tryd.strings_HasPrefix s p w).mono fun e w' ⟨he, hw⟩ => ⟨by rw [he, h], hw.symm⟩
def zeros64 : List UInt8 := List.replicate 64 48
theorem cut0 (c : Nat) (hc : c ≤ 18) : (bs zeros64).extract 0 c = bs (List.replicate c 48) := by
  apply ByteArray.ext
  apply Array.ext'
  rw [ByteArray.data_extract, Array.toList_extract]
  show ((zeros64.toArray).toList.extract 0 c) = (List.replicate c 48).toArray.toList
  simp only [List.extract, zeros64, Nat.sub_zero, List.drop_zero, List.take_replicate]
  rw [Nat.min_eq_left (by omega)]
theorem repeat0 (c : Nat) (hc : c ≤ 18) (w : World) : Calls Tryd.prog 77 #[.string ⟨#[48]⟩, .int .i64 c] w fun e w' => e = .returned (.string (bs (List.replicate c 48))) ∧ Below w.heap.size w w' := by
  by_cases h0 : c = 0
  · subst h0
    go_enter Tryd.func77, Tryd.ntmps77
    go_wp2
    go_ret
    exact ⟨rfl, bl_refl _⟩
  · by_cases h1 : c = 1
    · subst h1
      go_enter Tryd.func77, Tryd.ntmps77
      go_wp2
      go_ret
      exact ⟨rfl, bl_refl _⟩
    · have t0 : ((c : Int) == 0) = false := beq_eq_false_iff_ne.2 (by omega)
      have t1 : ((c : Int) == 1) = false := beq_eq_false_iff_ne.2 (by omega)
      have HM := Lib.hid (fun w => mul_one c hc w)
      have HZ := Lib.hid (cut0 c hc)
      go_enter Tryd.func77, Tryd.ntmps77
      go_wp2_with fail
      refine (HM.out _).mono ?_
      rintro e w' ⟨rfl, rfl⟩
      go_wp2_with fail
      refine (hp_any _ _ false (by decide +kernel) _).mono ?_
      rintro e w' ⟨rfl, rfl⟩
      go_wp2_with fail
      refine (hp_any _ _ false (by decide +kernel) _).mono ?_
      rintro e w' ⟨rfl, rfl⟩
      go_wp2_with fail
      refine (hp_any _ _ true (by decide +kernel) _).mono ?_
      rintro e w' ⟨rfl, rfl⟩
      go_wp2
      go_ret
      exact ⟨by rw [← HZ.out]; rfl, bl_refl _⟩
end Go.Proofs.YtccnfklemalmeaaDoor
