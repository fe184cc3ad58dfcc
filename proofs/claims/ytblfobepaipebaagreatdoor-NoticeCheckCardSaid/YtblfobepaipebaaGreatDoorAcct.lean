/- Accounts, the document's reference, Isin and code, by contracts. -/
import Derived.Test.YtblfobepaipebaaGreatDoorRefs
import Derived.Lib.Repeat
set_option linter.unusedVariables false
set_option linter.unusedSimpArgs false
set_option maxRecDepth 100000
namespace Go.Proofs.YtblfobepaipebaaGreatDoor
open Go.RowKit Go.Shelf

/-! ### codes.Account -/
theorem rep_list (c : UInt8) : ∀ n, Lib.repeatL [c] n = List.replicate n c
  | 0 => rfl
  | n + 1 => by rw [Lib.repeatL, rep_list c n]; rfl
def formS (n : Nat) : ByteArray := ⟨(List.replicate n (83 : UInt8)).toArray⟩
theorem formS_size (n : Nat) : (formS n).size = n := by simp [formS, ByteArray.size]
theorem formS_at (n i : Nat) (hi : i < n) : byteAt (formS n) i = 83 := by
  have : (List.replicate n (83 : UInt8)).getD i 0 = 83 := by rw [List.getD_eq_getElem?_getD, List.getElem?_replicate, if_pos hi]; rfl
  show (((List.replicate n (83 : UInt8)).getD i 0).toNat : Int) = 83
  rw [this]
  rfl
theorem letsS (n : Nat) : Lets (formS n) := fun i hi => by
  rw [byteAt_eq]
  right; right
  exact formS_at n i (by simpa [formS_size] using hi)
theorem fits83 (c : Int) : fitsI 83 c = signB c := by simp [fitsI, signB]
/-- The number of letters that an account's form gets. -/
def accN (s : ByteArray) : Nat := if s.size < 1 then 1 else if 34 < s.size then 34 else s.size
theorem accN_range (s : ByteArray) : 1 ≤ accN s ∧ accN s ≤ 34 := by unfold accN; split; · omega
                                                                    split <;> omega
theorem has_acc (s : ByteArray) : hasOK s (formS (accN s)) = accOK s := by
  unfold hasOK accOK
  rw [formS_size]
  by_cases h : 1 ≤ s.size ∧ s.size ≤ 34
  · have e : accN s = s.size := by unfold accN; rw [if_neg (by omega), if_neg (by omega)]
    rw [e]
    simp only [h.1, h.2, decide_true, Bool.true_and, Bool.and_self]
    unfold signsB
    rw [Bool.eq_iff_iff, List.all_eq_true, List.all_eq_true]
    refine forall_congr' fun i => forall_congr' fun hi => ?_
    rw [formS_at _ i (List.mem_range.1 hi), fits83]
  · have e : ¬ s.size = accN s := by unfold accN; split; · omega
                                     split <;> omega
    simp only [e, decide_false, Bool.false_and]
    by_cases h1 : 1 ≤ s.size
    · have : ¬ s.size ≤ 34 := fun h2 => h ⟨h1, h2⟩
      simp [this]
    · simp [h1]
theorem account_any (s : ByteArray) (hs : s.size ≤ 140737488351232) (w : World) (hp : PowT w) :
    Calls Tryz.prog 76 #[.string s] w fun e w' => ∃ E : GErr, e = .returned E.val ∧ E.isNil = accOK s ∧ E.ok ∧ Below w.heap.size w w' := by
  obtain ⟨n1, n2⟩ := accN_range s
  have HR : Hid (∀ w, Calls Tryz.prog 161 #[.string ⟨#[83]⟩, .int .i64 (accN s : Nat)] w fun e w' => e = .returned (.string (formS (accN s))) ∧ Below w.heap.size w w') := Lib.hid (fun w => by
    have h1 : (⟨#[83]⟩ : ByteArray).size = 1 := rfl
    have := Tryz.strings_Repeat ⟨#[83]⟩ (accN s) w (by omega) (by rw [h1]; omega)
    rw [show ((⟨#[83]⟩ : ByteArray).data.toList) = [83] from rfl, rep_list] at this
    exact this)
  have HA : Hid (∀ w, PowT w → Calls Tryz.prog 159 #[.string s, .string (formS (accN s))] w fun e w' => ∃ E : GErr, e = .returned E.val ∧ E.isNil = accOK s ∧ E.ok ∧ Below w.heap.size w w') := Lib.hid (fun w hp => by
    have := has_any s (formS (accN s)) (letsS _) hs (by rw [formS_size]; omega) w hp
    rw [has_acc] at this
    exact this)
  have HP := Lib.hid hp
  clear hp
  have HN : Hid (accN s = if s.size < 1 then 1 else if 34 < s.size then 34 else s.size) := Lib.hid rfl
  generalize hn : accN s = n at HR HA HN n1 n2
  generalize formS n = f at HR HA
  clear hn
  have hm : min (max (s.size : Int) 1) 34 = (n : Int) := by
    have e := HN.out
    by_cases h1 : s.size < 1
    · rw [if_pos h1] at e; omega
    · rw [if_neg h1] at e
      by_cases h2 : 34 < s.size
      · rw [if_pos h2] at e; omega
      · rw [if_neg h2] at e; omega
  clear HN
  go_enter Tryz.func76, Tryz.ntmps76
  go_wp2_with (first | (go_at_call 161; with_reducible refine (HR.out _).mono ?_; rintro e w1 ⟨rfl, hb1⟩; have HP1 := Lib.hid (HP.out.below hb1)) | (go_at_call 159; with_reducible refine (HA.out _ HP1.out).mono ?_; rintro e w2 ⟨E, rfl, hE, hEok, hb2⟩))
  go_ret
  exact ⟨E, rfl, hE, hEok, bl_then hb1 hb2⟩
/-! ### the document's loops over signs -/
def UptoS (s : ByteArray) (k : Nat) : Prop := ∀ i, i < k → signB (byteAt s i) = true
theorem UptoS.next {s : ByteArray} {k : Nat} (h : UptoS s k) (hk : signB (byteAt s k) = true) : UptoS s (k + 1) := fun i hi => by
  by_cases e : i = k
  · rw [e]; exact hk
  · exact h i (by omega)
theorem signs_yes {s : ByteArray} (h : UptoS s s.size) : signsB s = true := by
  unfold signsB
  rw [List.all_eq_true]
  exact fun i hi => h i (List.mem_range.1 hi)
theorem signs_no {s : ByteArray} {k : Nat} (hk : k < s.size) (h : signB (byteAt s k) = false) : signsB s = false := by
  unfold signsB
  rw [List.all_eq_false]
  exact ⟨k, List.mem_range.2 hk, by simp [h]⟩
theorem refReference_any (s : ByteArray) (hs : s.size ≤ 140737488351232) (w : World) :
    Calls Tryz.prog 35 #[.string s] w fun e w' => e = .returned (.bool (refOK s)) ∧ Below w.heap.size w w' := by
  have HR : Hid (refOK s = (decide (1 ≤ s.size) && decide (s.size ≤ 16) && signsB s)) := Lib.hid rfl
  go_enter Tryz.func35, Tryz.ntmps35
  by_cases h1 : s.size < 1
  · have z1 : (s.size : Int) < 1 := by omega
    have HF : Hid (refOK s = false) := Lib.hid (by rw [HR.out]; simp; omega)
    clear HR h1
    go_wp2
    go_ret
    exact ⟨by rw [HF.out]; rfl, bl_refl w⟩
  · have z1 : ¬ (s.size : Int) < 1 := by omega
    by_cases h2 : 16 < s.size
    · have z2 : (16 : Int) < (s.size : Int) := by omega
      have HF : Hid (refOK s = false) := Lib.hid (by rw [HR.out]; simp; omega)
      clear HR h1 h2
      go_wp2
      go_ret
      exact ⟨by rw [HF.out]; rfl, bl_refl w⟩
    · have z2 : ¬ (16 : Int) < (s.size : Int) := by omega
      have HQ : Hid (refOK s = signsB s) := Lib.hid (by rw [HR.out]; simp [show 1 ≤ s.size by omega, show s.size ≤ 16 by omega])
      have U0 : Hid (UptoS s 0) := Lib.hid (fun i hi => absurd hi (Nat.not_lt_zero i))
      clear HR h1 h2
      go_wp2
      go_loopg [3] s.size (fun g vi wr => ∃ k : Nat, vi = .int .i64 k ∧ k ≤ s.size ∧ s.size - k ≤ g ∧ wr = w ∧ Hid (UptoS s k))
      case atStart => exact ⟨0, rfl, by omega, by omega, rfl, U0⟩
      case round =>
        clear U0 z1 z2
        obtain ⟨k, rfl, hk, hg, rfl, U⟩ := hrel
        by_cases hlt : k < s.size
        · have hltz : (k : Int) < (s.size : Int) := by omega
          have hbx := byteAt_eq s k hlt
          cases hsb : signB (byteAt s k) with
          | true =>
            have IS := Lib.hid (fun w => isSign_any (byteAt s k) w)
            have U2 := Lib.hid (U.out.next hsb)
            have e1 : (digI (byteAt s k) || capI (byteAt s k)) = true := hsb
            rw [e1] at IS
            generalize byteAt s k = c at hbx IS
            clear hsb e1
            go_wp2_with (first | (go_at_call 95; with_reducible refine (IS.out _).mono ?_; rintro e w1 ⟨rfl, rfl⟩))
            go_roundg (s.size - (k + 1))
            case measure => omega
            case rel => exact ⟨k + 1, by go_num, by omega, by omega, rfl, U2⟩
          | false =>
            have IS := Lib.hid (fun w => isSign_any (byteAt s k) w)
            have HF := Lib.hid (signs_no hlt hsb)
            have e1 : (digI (byteAt s k) || capI (byteAt s k)) = false := hsb
            rw [e1] at IS
            generalize byteAt s k = c at hbx IS
            clear hsb e1
            go_wp2_with (first | (go_at_call 95; with_reducible refine (IS.out _).mono ?_; rintro e w1 ⟨rfl, rfl⟩))
            go_ret
            exact ⟨by rw [HQ.out, HF.out]; rfl, bl_refl _⟩
        · have e : k = s.size := by omega
          have hltz : ¬ (k : Int) < (s.size : Int) := by omega
          have HF := Lib.hid (signs_yes (e ▸ U.out))
          go_wp2
          go_ret
          exact ⟨by rw [HQ.out, HF.out]; rfl, bl_refl _⟩
theorem refAccount_any (s : ByteArray) (hs : s.size ≤ 140737488351232) (w : World) :
    Calls Tryz.prog 92 #[.string s] w fun e w' => ∃ n a : Int, e = .returned (.tuple #[.int .i64 n, .int .i64 a]) ∧ (n == 0) = accOK s ∧ Below w.heap.size w w' := by
  have HR : Hid (accOK s = (decide (1 ≤ s.size) && decide (s.size ≤ 34) && signsB s)) := Lib.hid rfl
  go_enter Tryz.func92, Tryz.ntmps92
  by_cases h1 : s.size < 1
  · have z1 : (s.size : Int) = 0 := by omega
    have HF : Hid (accOK s = false) := Lib.hid (by rw [HR.out]; simp; omega)
    clear HR h1
    go_wp2
    go_ret2
    exact ⟨2, 0, rfl, by rw [HF.out]; rfl, bl_refl w⟩
  · have z1 : ((s.size : Int) == 0) = false := beq_eq_false_iff_ne.2 (by omega)
    by_cases h2 : 34 < s.size
    · have z2 : (34 : Int) < (s.size : Int) := by omega
      have HF : Hid (accOK s = false) := Lib.hid (by rw [HR.out]; simp; omega)
      clear HR h1 h2
      go_wp2
      go_ret2
      exact ⟨3, 0, rfl, by rw [HF.out]; rfl, bl_refl w⟩
    · have z2 : ¬ (34 : Int) < (s.size : Int) := by omega
      have HQ : Hid (accOK s = signsB s) := Lib.hid (by rw [HR.out]; simp [show 1 ≤ s.size by omega, show s.size ≤ 34 by omega])
      have U0 : Hid (UptoS s 0) := Lib.hid (fun i hi => absurd hi (Nat.not_lt_zero i))
      clear HR h1 h2
      go_wp2
      go_loopg [4] s.size (fun g vi wr => ∃ k : Nat, vi = .int .i64 k ∧ k ≤ s.size ∧ s.size - k ≤ g ∧ wr = w ∧ Hid (UptoS s k))
      case atStart => exact ⟨0, rfl, by omega, by omega, rfl, U0⟩
      case round =>
        clear U0 z1 z2
        obtain ⟨k, rfl, hk, hg, rfl, U⟩ := hrel
        by_cases hlt : k < s.size
        · have hltz : (k : Int) < (s.size : Int) := by omega
          have hbx := byteAt_eq s k hlt
          cases hsb : signB (byteAt s k) with
          | true =>
            have IS := Lib.hid (fun w => isSign_any (byteAt s k) w)
            have U2 := Lib.hid (U.out.next hsb)
            have e1 : (digI (byteAt s k) || capI (byteAt s k)) = true := hsb
            rw [e1] at IS
            generalize byteAt s k = c at hbx IS
            clear hsb e1
            go_wp2_with (first | (go_at_call 95; with_reducible refine (IS.out _).mono ?_; rintro e w1 ⟨rfl, rfl⟩))
            go_roundg (s.size - (k + 1))
            case measure => omega
            case rel => exact ⟨k + 1, by go_num, by omega, by omega, rfl, U2⟩
          | false =>
            have IS := Lib.hid (fun w => isSign_any (byteAt s k) w)
            have HF := Lib.hid (signs_no hlt hsb)
            have e1 : (digI (byteAt s k) || capI (byteAt s k)) = false := hsb
            rw [e1] at IS
            generalize byteAt s k = c at hbx IS
            clear hsb e1
            go_wp2_with (first | (go_at_call 95; with_reducible refine (IS.out _).mono ?_; rintro e w1 ⟨rfl, rfl⟩))
            go_ret2
            exact ⟨6, k, rfl, by rw [HQ.out, HF.out]; rfl, bl_refl _⟩
        · have e : k = s.size := by omega
          have hltz : ¬ (k : Int) < (s.size : Int) := by omega
          have HF := Lib.hid (signs_yes (e ▸ U.out))
          go_wp2
          go_ret2
          exact ⟨0, ⟨0, rfl⟩, by rw [HQ.out, HF.out]; rfl, bl_refl _⟩
end Go.Proofs.YtblfobepaipebaaGreatDoor
