/- Joined texts of this proof: Refs, Acct, CodeS, NChecks, NHead. -/
import Derived.Shelf.Strings.SlTrimAscii
import Derived.Lib.Repeat
import Derived.Test.YtphabkaiheplpaaGreatDoorRests12
import Derived.Test.YtphabkaiheplpaaGreatDoorRests13
/- References, accounts and the document's Isin, by contracts. -/
set_option linter.unusedVariables false
set_option linter.unusedSimpArgs false
set_option maxRecDepth 100000
namespace Go.Proofs.YtphabkaiheplpaaGreatDoor
open Go.RowKit Go.Shelf

def signB (c : Int) : Bool := digI c || capI c
def signsB (s : ByteArray) : Bool := (List.range s.size).all fun i => signB (byteAt s i)
def refOK (s : ByteArray) : Bool := decide (1 ≤ s.size) && decide (s.size ≤ 16) && signsB s
def accOK (s : ByteArray) : Bool := decide (1 ≤ s.size) && decide (s.size ≤ 34) && signsB s
def signs36 : List UInt8 := [48, 49, 50, 51, 52, 53, 54, 55, 56, 57, 65, 66, 67, 68, 69, 70, 71, 72, 73, 74, 75, 76, 77, 78, 79, 80, 81, 82, 83, 84, 85, 86, 87, 88, 89, 90]
theorem signs36_all : ∀ n, n < 256 → signs36.contains (UInt8.ofNat n) = signB (n : Int) := by decide +kernel
theorem signs36_of (c : UInt8) : signs36.contains c = signB (c.toNat : Int) := by
  have := signs36_all c.toNat c.toNat_lt
  rwa [UInt8.ofNat_toNat] at this
theorem signsB_mem (s : ByteArray) : (∀ c ∈ s.data.toList, signs36.contains c = true) ↔ signsB s = true := by
  unfold signsB
  rw [List.all_eq_true]
  constructor
  · intro h i hi
    have hi := List.mem_range.1 hi
    have := h (s[i]'hi) (List.getElem_mem (l := s.data.toList) (by simpa using hi))
    rw [signs36_of, byteAt_eq s i hi] at this
    exact this
  · intro h c hc
    obtain ⟨i, hi, rfl⟩ := List.getElem_of_mem hc
    have hi' : i < s.size := by simpa using hi
    have := h i (List.mem_range.2 hi')
    rw [← byteAt_eq s i hi'] at this
    rw [signs36_of]
    exact this
theorem dwn {p : UInt8 → Bool} : ∀ l : List UInt8, l.dropWhile p = [] ↔ ∀ x ∈ l, p x = true
  | [] => by simp
  | c :: r => by
    rw [List.dropWhile_cons]
    cases h : p c with
    | true => simp [h, dwn r]
    | false => simp [h]
theorem dwh {p : UInt8 → Bool} : ∀ (l : List UInt8) {a : UInt8} {t : List UInt8}, l.dropWhile p = a :: t → p a = false
  | [], a, t, h => by cases h
  | c :: r, a, t, h => by
    rw [List.dropWhile_cons] at h
    cases hc : p c with
    | true => rw [hc, if_pos rfl] at h; exact dwh r h
    | false =>
      rw [hc, if_neg (by decide)] at h
      injection h with h1 _
      rw [← h1]
      exact hc
theorem dwm {p : UInt8 → Bool} : ∀ (l : List UInt8) {a : UInt8}, a ∈ l.dropWhile p → a ∈ l
  | [], a, h => by cases h
  | c :: r, a, h => by
    rw [List.dropWhile_cons] at h
    cases hc : p c with
    | true => rw [hc, if_pos rfl] at h; exact List.mem_cons_of_mem _ (dwm r h)
    | false => rw [hc, if_neg (by decide)] at h; exact h
theorem trimmed (l cs : List UInt8) : Lib.trimS l cs = [] ↔ ∀ c ∈ l, cs.contains c = true := by
  unfold Lib.trimS Lib.trimLeftS Lib.trimRightS
  rw [dwn]
  constructor
  · intro h c hc
    have h2 : ∀ c, c ∈ l.reverse.dropWhile (cs.contains ·) → cs.contains c = true := fun c hc => h c (List.mem_reverse.2 hc)
    cases hd : l.reverse.dropWhile (cs.contains ·) with
    | nil => exact (dwn _).1 hd c (List.mem_reverse.2 hc)
    | cons a t =>
      have h3 := h2 a (by rw [hd]; simp)
      rw [dwh _ hd] at h3
      cases h3
  · intro h c hc
    exact h c (List.mem_reverse.1 (dwm _ (List.mem_reverse.1 hc)))
theorem trimSigns_any (s : ByteArray) (hs : s.size ≤ 140737488351232) (w : World) : Calls Tryz.prog 102 #[.string s, .string ⟨#[48, 49, 50, 51, 52, 53, 54, 55, 56, 57, 65, 66, 67, 68, 69, 70, 71, 72, 73, 74, 75, 76, 77, 78, 79, 80, 81, 82, 83, 84, 85, 86, 87, 88, 89, 90]⟩] w
    fun e w' => e = .returned (.string ⟨(Lib.trimS s.data.toList signs36).toArray⟩) ∧ Below w.heap.size w w' :=
  Any.strings_Trim_laid Tryz.lays160 (by kernel_rfl) s ⟨#[48, 49, 50, 51, 52, 53, 54, 55, 56, 57, 65, 66, 67, 68, 69, 70, 71, 72, 73, 74, 75, 76, 77, 78, 79, 80, 81, 82, 83, 84, 85, 86, 87, 88, 89, 90]⟩ w (by omega) (by decide) (by
    intro j b hb
    have : ∀ b ∈ signs36, b.toNat < 128 := by decide
    exact this b (List.mem_of_getElem? hb))
def notSign (x : Nat) : Bool := !signB (x : Int)
theorem idx_none (s : ByteArray) (h : ∀ i (hi : i < s.size), (s[i]'hi).toNat < 128 ∧ notSign (s[i]'hi).toNat = false) : ∀ f pos, Lib.idxFuncFrom notSign true s f pos = -1
  | 0, _ => rfl
  | f + 1, pos => by
    unfold Lib.idxFuncFrom
    by_cases hp : pos < s.size
    · obtain ⟨h1, h2⟩ := h pos hp
      rw [if_pos hp, decode_ascii s pos hp h1]
      simp only [h2]
      exact idx_none s h f (pos + 1)
    · rw [if_neg hp]
theorem signFn_any (x : Nat) (w : World) : Calls Tryz.prog 104 #[.int .i32 x] w fun e w' => e = .returned (.bool (notSign x)) ∧ w = w' := by
  go_enter Tryz.func104, Tryz.ntmps104
  go_wp2
  all_goals go_ret
  all_goals exact ⟨ret_b (by first | (simp only [notSign, signB, capI, digI]; simp; omega) | (symm; simp only [notSign, signB, capI, digI]; simp; omega) | (rw [Bool.eq_iff_iff]; simp [notSign, signB, capI, digI]; omega) | (trace_state; skip)), rfl⟩
theorem none_any (s : ByteArray) (hs : signsB s = true) (w : World) : Calls Tryz.prog 103 #[.string s, .func (.func 104) #[] #[]] w fun e w' => e = .returned (.bool false) ∧ Below w.heap.size w w' := by
  have hz : Lib.idxFunc notSign true s = -1 := by
    unfold signsB at hs
    rw [List.all_eq_true] at hs
    refine idx_none s (fun i hi => ?_) _ _
    have := hs i (List.mem_range.2 hi)
    rw [← byteAt_eq s i hi] at this
    refine ⟨?_, by simp only [notSign, this]; rfl⟩
    unfold signB digI capI at this
    simp at this
    omega
  have := Tryz.strings_ContainsFunc_grows 104 #[] (fun args w => by kernel_rfl) notSign s w (fun W x hx hb => (signFn_any x W).mono fun e w' ⟨h1, h2⟩ => ⟨h1, h2 ▸ bl_refl W⟩)
  rw [hz] at this
  exact this
theorem emptyB (l : List UInt8) : ((⟨l.toArray⟩ : ByteArray).toList).isEmpty = l.isEmpty := by rw [ByteArray.toList_eq]
theorem reference_any (s : ByteArray) (hs : s.size ≤ 140737488351232) (w : World) :
    Calls Tryz.prog 63 #[.string s] w fun e w' => e = .returned (.bool (refOK s)) ∧ Below w.heap.size w w' := by
  have HT := Lib.hid (fun w => trimSigns_any s hs w)
  have HR : Hid (refOK s = (decide (1 ≤ s.size) && decide (s.size ≤ 16) && signsB s)) := Lib.hid rfl
  by_cases h1 : 1 ≤ s.size
  · by_cases h2 : s.size ≤ 16
    · have z1 : (1 : Int) ≤ (s.size : Int) := by omega
      have z2 : (s.size : Int) ≤ 16 := by omega
      cases hb : signsB s with
      | true =>
        have e0 : Lib.trimS s.data.toList signs36 = [] := (trimmed _ _).2 ((signsB_mem s).2 hb)
        rw [e0] at HT
        have he : ((⟨([] : List UInt8).toArray⟩ : ByteArray).toList).isEmpty = true := emptyB []
        generalize (⟨([] : List UInt8).toArray⟩ : ByteArray) = z at HT he
        have HN := Lib.hid (fun w => none_any s hb w)
        have HF : Hid (refOK s = true) := Lib.hid (by rw [HR.out, hb]; simp [h1, h2])
        clear hb e0 HR h1 h2
        go_enter Tryz.func63, Tryz.ntmps63
        go_wp2_with (first | (go_at_call 102; with_reducible refine (HT.out _).mono ?_; rintro e w1 ⟨rfl, hb1⟩) | (go_at_call 103; with_reducible refine (HN.out _).mono ?_; rintro e w2 ⟨rfl, hb2⟩))
        go_ret
        exact ⟨by rw [HF.out]; rfl, bl_then hb1 hb2⟩
      | false =>
        have e0 : (Lib.trimS s.data.toList signs36).isEmpty = false := by
          cases hq : Lib.trimS s.data.toList signs36 with
          | nil => rw [(signsB_mem s).1 ((trimmed _ _).1 hq)] at hb; cases hb
          | cons c q => rfl
        have he : ((⟨(Lib.trimS s.data.toList signs36).toArray⟩ : ByteArray).toList).isEmpty = false := (emptyB _).trans e0
        generalize (⟨(Lib.trimS s.data.toList signs36).toArray⟩ : ByteArray) = z at HT he
        have HF : Hid (refOK s = false) := Lib.hid (by rw [HR.out, hb]; simp)
        clear hb e0 HR h1 h2
        go_enter Tryz.func63, Tryz.ntmps63
        go_wp2_with (first | (go_at_call 102; with_reducible refine (HT.out _).mono ?_; rintro e w1 ⟨rfl, hb1⟩))
        go_ret
        exact ⟨by rw [HF.out]; rfl, hb1⟩
    · have z1 : (1 : Int) ≤ (s.size : Int) := by omega
      have z2 : ¬ (s.size : Int) ≤ 16 := by omega
      have HF : Hid (refOK s = false) := Lib.hid (by rw [HR.out]; simp [h2])
      clear HR h1 h2 HT
      go_enter Tryz.func63, Tryz.ntmps63
      go_wp2
      go_ret
      exact ⟨by rw [HF.out]; rfl, bl_refl w⟩
  · have z1 : ¬ (1 : Int) ≤ (s.size : Int) := by omega
    have HF : Hid (refOK s = false) := Lib.hid (by rw [HR.out]; simp; omega)
    clear HR h1 HT
    go_enter Tryz.func63, Tryz.ntmps63
    go_wp2
    go_ret
    exact ⟨by rw [HF.out]; rfl, bl_refl w⟩
end Go.Proofs.YtphabkaiheplpaaGreatDoor
/- Accounts, the document's reference, Isin and code, by contracts. -/
set_option linter.unusedVariables false
set_option linter.unusedSimpArgs false
set_option maxRecDepth 100000
namespace Go.Proofs.YtphabkaiheplpaaGreatDoor
open Go.RowKit Go.Shelf

/-! ### codes.Account -/
theorem rep_list (c : UInt8) : ∀ n, Lib.repeatL [c] n = List.replicate n c
  | 0 => rfl
  | n + 1 => by rw [Lib.repeatL, rep_list c n]; rfl
def formS (n : Nat) : ByteArray := ⟨(List.replicate n (83 : UInt8)).toArray⟩
theorem formS_size (n : Nat) : (formS n).size = n := by simp [formS, ByteArray.size]
theorem formS_at (n i : Nat) (hi : i < n) : byteAt (formS n) i = 83 := by
  have : (List.replicate n (83 : UInt8)).getD i 0 = 83 := by rw [List.getD_eq_getElem?_getD, List.getElem?_replicate, if_pos hi]; rfl
  show (((List.replicate n (83 : UInt8)).getD i 0).toNat : Int) = 83
  rw [this]
  rfl
theorem letsS (n : Nat) : Lets (formS n) := fun i hi => by
  rw [byteAt_eq]
  right; right
  exact formS_at n i (by simpa [formS_size] using hi)
theorem fits83 (c : Int) : fitsI 83 c = signB c := by simp [fitsI, signB]
/-- The number of letters that an account's form gets. -/
def accN (s : ByteArray) : Nat := if s.size < 1 then 1 else if 34 < s.size then 34 else s.size
theorem accN_range (s : ByteArray) : 1 ≤ accN s ∧ accN s ≤ 34 := by unfold accN; split; · omega
                                                                    split <;> omega
theorem has_acc (s : ByteArray) : hasOK s (formS (accN s)) = accOK s := by
  unfold hasOK accOK
  rw [formS_size]
  by_cases h : 1 ≤ s.size ∧ s.size ≤ 34
  · have e : accN s = s.size := by unfold accN; rw [if_neg (by omega), if_neg (by omega)]
    rw [e]
    simp only [h.1, h.2, decide_true, Bool.true_and, Bool.and_self]
    unfold signsB
    rw [Bool.eq_iff_iff, List.all_eq_true, List.all_eq_true]
    refine forall_congr' fun i => forall_congr' fun hi => ?_
    rw [formS_at _ i (List.mem_range.1 hi), fits83]
  · have e : ¬ s.size = accN s := by unfold accN; split; · omega
                                     split <;> omega
    simp only [e, decide_false, Bool.false_and]
    by_cases h1 : 1 ≤ s.size
    · have : ¬ s.size ≤ 34 := fun h2 => h ⟨h1, h2⟩
      simp [this]
    · simp [h1]
theorem account_any (s : ByteArray) (hs : s.size ≤ 140737488351232) (w : World) (hp : PowT w) :
    Calls Tryz.prog 93 #[.string s] w fun e w' => ∃ E : GErr, e = .returned E.val ∧ E.isNil = accOK s ∧ E.ok ∧ Below w.heap.size w w' := by
  obtain ⟨n1, n2⟩ := accN_range s
  have HR : Hid (∀ w, Calls Tryz.prog 121 #[.string ⟨#[83]⟩, .int .i64 (accN s : Nat)] w fun e w' => e = .returned (.string (formS (accN s))) ∧ Below w.heap.size w w') := Lib.hid (fun w => by
    have h1 : (⟨#[83]⟩ : ByteArray).size = 1 := rfl
    have := Tryz.strings_Repeat ⟨#[83]⟩ (accN s) w (by omega) (by rw [h1]; omega)
    rw [show ((⟨#[83]⟩ : ByteArray).data.toList) = [83] from rfl, rep_list] at this
    exact this)
  have HA : Hid (∀ w, PowT w → Calls Tryz.prog 83 #[.string s, .string (formS (accN s))] w fun e w' => ∃ E : GErr, e = .returned E.val ∧ E.isNil = accOK s ∧ E.ok ∧ Below w.heap.size w w') := Lib.hid (fun w hp => by
    have := has_any s (formS (accN s)) (letsS _) hs (by rw [formS_size]; omega) w hp
    rw [has_acc] at this
    exact this)
  have HP := Lib.hid hp
  clear hp
  have HN : Hid (accN s = if s.size < 1 then 1 else if 34 < s.size then 34 else s.size) := Lib.hid rfl
  generalize hn : accN s = n at HR HA HN n1 n2
  generalize formS n = f at HR HA
  clear hn
  have hm : min (max (s.size : Int) 1) 34 = (n : Int) := by
    have e := HN.out
    by_cases h1 : s.size < 1
    · rw [if_pos h1] at e; omega
    · rw [if_neg h1] at e
      by_cases h2 : 34 < s.size
      · rw [if_pos h2] at e; omega
      · rw [if_neg h2] at e; omega
  clear HN
  go_enter Tryz.func93, Tryz.ntmps93
  go_wp2_with (first | (go_at_call 121; with_reducible refine (HR.out _).mono ?_; rintro e w1 ⟨rfl, hb1⟩; have HP1 := Lib.hid (HP.out.below hb1)) | (go_at_call 83; with_reducible refine (HA.out _ HP1.out).mono ?_; rintro e w2 ⟨E, rfl, hE, hEok, hb2⟩))
  go_ret
  exact ⟨E, rfl, hE, hEok, bl_then hb1 hb2⟩
/-! ### the document's loops over signs -/
def UptoS (s : ByteArray) (k : Nat) : Prop := ∀ i, i < k → signB (byteAt s i) = true
theorem UptoS.next {s : ByteArray} {k : Nat} (h : UptoS s k) (hk : signB (byteAt s k) = true) : UptoS s (k + 1) := fun i hi => by
  by_cases e : i = k
  · rw [e]; exact hk
  · exact h i (by omega)
theorem signs_yes {s : ByteArray} (h : UptoS s s.size) : signsB s = true := by
  unfold signsB
  rw [List.all_eq_true]
  exact fun i hi => h i (List.mem_range.1 hi)
theorem signs_no {s : ByteArray} {k : Nat} (hk : k < s.size) (h : signB (byteAt s k) = false) : signsB s = false := by
  unfold signsB
  rw [List.all_eq_false]
  exact ⟨k, List.mem_range.2 hk, by simp [h]⟩
theorem refReference_any (s : ByteArray) (hs : s.size ≤ 140737488351232) (w : World) :
    Calls Tryz.prog 108 #[.string s] w fun e w' => e = .returned (.bool (refOK s)) ∧ Below w.heap.size w w' := by
  have HR : Hid (refOK s = (decide (1 ≤ s.size) && decide (s.size ≤ 16) && signsB s)) := Lib.hid rfl
  go_enter Tryz.func108, Tryz.ntmps108
  by_cases h1 : s.size < 1
  · have z1 : (s.size : Int) < 1 := by omega
    have HF : Hid (refOK s = false) := Lib.hid (by rw [HR.out]; simp; omega)
    clear HR h1
    go_wp2
    go_ret
    exact ⟨by rw [HF.out]; rfl, bl_refl w⟩
  · have z1 : ¬ (s.size : Int) < 1 := by omega
    by_cases h2 : 16 < s.size
    · have z2 : (16 : Int) < (s.size : Int) := by omega
      have HF : Hid (refOK s = false) := Lib.hid (by rw [HR.out]; simp; omega)
      clear HR h1 h2
      go_wp2
      go_ret
      exact ⟨by rw [HF.out]; rfl, bl_refl w⟩
    · have z2 : ¬ (16 : Int) < (s.size : Int) := by omega
      have HQ : Hid (refOK s = signsB s) := Lib.hid (by rw [HR.out]; simp [show 1 ≤ s.size by omega, show s.size ≤ 16 by omega])
      have U0 : Hid (UptoS s 0) := Lib.hid (fun i hi => absurd hi (Nat.not_lt_zero i))
      clear HR h1 h2
      go_wp2
      go_loopg [3] s.size (fun g vi wr => ∃ k : Nat, vi = .int .i64 k ∧ k ≤ s.size ∧ s.size - k ≤ g ∧ wr = w ∧ Hid (UptoS s k))
      case atStart => exact ⟨0, rfl, by omega, by omega, rfl, U0⟩
      case round =>
        clear U0 z1 z2
        obtain ⟨k, rfl, hk, hg, rfl, U⟩ := hrel
        by_cases hlt : k < s.size
        · have hltz : (k : Int) < (s.size : Int) := by omega
          have hbx := byteAt_eq s k hlt
          cases hsb : signB (byteAt s k) with
          | true =>
            have IS := Lib.hid (fun w => isSign_any (byteAt s k) w)
            have U2 := Lib.hid (U.out.next hsb)
            have e1 : (digI (byteAt s k) || capI (byteAt s k)) = true := hsb
            rw [e1] at IS
            generalize byteAt s k = c at hbx IS
            clear hsb e1
            go_wp2_with (first | (go_at_call 136; with_reducible refine (IS.out _).mono ?_; rintro e w1 ⟨rfl, rfl⟩))
            go_roundg (s.size - (k + 1))
            case measure => omega
            case rel => exact ⟨k + 1, by go_num, by omega, by omega, rfl, U2⟩
          | false =>
            have IS := Lib.hid (fun w => isSign_any (byteAt s k) w)
            have HF := Lib.hid (signs_no hlt hsb)
            have e1 : (digI (byteAt s k) || capI (byteAt s k)) = false := hsb
            rw [e1] at IS
            generalize byteAt s k = c at hbx IS
            clear hsb e1
            go_wp2_with (first | (go_at_call 136; with_reducible refine (IS.out _).mono ?_; rintro e w1 ⟨rfl, rfl⟩))
            go_ret
            exact ⟨by rw [HQ.out, HF.out]; rfl, bl_refl _⟩
        · have e : k = s.size := by omega
          have hltz : ¬ (k : Int) < (s.size : Int) := by omega
          have HF := Lib.hid (signs_yes (e ▸ U.out))
          go_wp2
          go_ret
          exact ⟨by rw [HQ.out, HF.out]; rfl, bl_refl _⟩
theorem refAccount_any (s : ByteArray) (hs : s.size ≤ 140737488351232) (w : World) :
    Calls Tryz.prog 133 #[.string s] w fun e w' => ∃ n a : Int, e = .returned (.tuple #[.int .i64 n, .int .i64 a]) ∧ (n == 0) = accOK s ∧ Below w.heap.size w w' := by
  have HR : Hid (accOK s = (decide (1 ≤ s.size) && decide (s.size ≤ 34) && signsB s)) := Lib.hid rfl
  go_enter Tryz.func133, Tryz.ntmps133
  by_cases h1 : s.size < 1
  · have z1 : (s.size : Int) = 0 := by omega
    have HF : Hid (accOK s = false) := Lib.hid (by rw [HR.out]; simp; omega)
    clear HR h1
    go_wp2
    go_ret2
    exact ⟨2, 0, rfl, by rw [HF.out]; rfl, bl_refl w⟩
  · have z1 : ((s.size : Int) == 0) = false := beq_eq_false_iff_ne.2 (by omega)
    by_cases h2 : 34 < s.size
    · have z2 : (34 : Int) < (s.size : Int) := by omega
      have HF : Hid (accOK s = false) := Lib.hid (by rw [HR.out]; simp; omega)
      clear HR h1 h2
      go_wp2
      go_ret2
      exact ⟨3, 0, rfl, by rw [HF.out]; rfl, bl_refl w⟩
    · have z2 : ¬ (34 : Int) < (s.size : Int) := by omega
      have HQ : Hid (accOK s = signsB s) := Lib.hid (by rw [HR.out]; simp [show 1 ≤ s.size by omega, show s.size ≤ 34 by omega])
      have U0 : Hid (UptoS s 0) := Lib.hid (fun i hi => absurd hi (Nat.not_lt_zero i))
      clear HR h1 h2
      go_wp2
      go_loopg [4] s.size (fun g vi wr => ∃ k : Nat, vi = .int .i64 k ∧ k ≤ s.size ∧ s.size - k ≤ g ∧ wr = w ∧ Hid (UptoS s k))
      case atStart => exact ⟨0, rfl, by omega, by omega, rfl, U0⟩
      case round =>
        clear U0 z1 z2
        obtain ⟨k, rfl, hk, hg, rfl, U⟩ := hrel
        by_cases hlt : k < s.size
        · have hltz : (k : Int) < (s.size : Int) := by omega
          have hbx := byteAt_eq s k hlt
          cases hsb : signB (byteAt s k) with
          | true =>
            have IS := Lib.hid (fun w => isSign_any (byteAt s k) w)
            have U2 := Lib.hid (U.out.next hsb)
            have e1 : (digI (byteAt s k) || capI (byteAt s k)) = true := hsb
            rw [e1] at IS
            generalize byteAt s k = c at hbx IS
            clear hsb e1
            go_wp2_with (first | (go_at_call 136; with_reducible refine (IS.out _).mono ?_; rintro e w1 ⟨rfl, rfl⟩))
            go_roundg (s.size - (k + 1))
            case measure => omega
            case rel => exact ⟨k + 1, by go_num, by omega, by omega, rfl, U2⟩
          | false =>
            have IS := Lib.hid (fun w => isSign_any (byteAt s k) w)
            have HF := Lib.hid (signs_no hlt hsb)
            have e1 : (digI (byteAt s k) || capI (byteAt s k)) = false := hsb
            rw [e1] at IS
            generalize byteAt s k = c at hbx IS
            clear hsb e1
            go_wp2_with (first | (go_at_call 136; with_reducible refine (IS.out _).mono ?_; rintro e w1 ⟨rfl, rfl⟩))
            go_ret2
            exact ⟨6, k, rfl, by rw [HQ.out, HF.out]; rfl, bl_refl _⟩
        · have e : k = s.size := by omega
          have hltz : ¬ (k : Int) < (s.size : Int) := by omega
          have HF := Lib.hid (signs_yes (e ▸ U.out))
          go_wp2
          go_ret2
          exact ⟨0, ⟨0, rfl⟩, by rw [HQ.out, HF.out]; rfl, bl_refl _⟩
end Go.Proofs.YtphabkaiheplpaaGreatDoor
/- The twelve bytes of a code as a text; the document's Isin, by contracts. -/
set_option linter.unusedVariables false
set_option linter.unusedSimpArgs false
set_option maxRecDepth 100000
namespace Go.Proofs.YtphabkaiheplpaaGreatDoor
open Go.RowKit Go.Shelf

def codeL (f : Nat → Int) : List UInt8 := (List.range 12).map fun i => UInt8.ofNat (f i).toNat
def codeB (f : Nat → Int) : ByteArray := ⟨(codeL f).toArray⟩
theorem codeB_size (f : Nat → Int) : (codeB f).size = 12 := by simp [codeB, codeL, ByteArray.size]
def codeU (f : Nat → Int) (k : Nat) : List Value := (List.range k).map fun i => .int .u8 (f i)
theorem codeU_next (f : Nat → Int) (k : Nat) : codeU f (k + 1) = codeU f k ++ [.int .u8 (f k)] := by simp [codeU, List.range_succ]
theorem codeU_length (f : Nat → Int) (k : Nat) : (codeU f k).length = k := by simp [codeU]
theorem u8_back {n : Int} (h : 0 ≤ n ∧ n ≤ 255) : ((UInt8.ofNat n.toNat).toNat : Int) = n := by
  rw [UInt8.toNat_ofNat_of_lt' (by show n.toNat < 256; omega)]
  omega
theorem codeV_at (f : Nat → Int) (k : Nat) (hk : k < 12) : (codeV f)[k]? = some (.int .u8 (f k)) := by
  have : k = 0 ∨ k = 1 ∨ k = 2 ∨ k = 3 ∨ k = 4 ∨ k = 5 ∨ k = 6 ∨ k = 7 ∨ k = 8 ∨ k = 9 ∨ k = 10 ∨ k = 11 := by omega
  rcases this with rfl | rfl | rfl | rfl | rfl | rfl | rfl | rfl | rfl | rfl | rfl | rfl <;> rfl
theorem A_infoB : (Tryz.prog.info? 5).map (fun i => (i.zero, i.size, i.bytes)) = some (some (.int .u8 0), 1, 1) := by kernel_rfl
/-- 'string(b)' where b's cells are the bytes of a code. -/
theorem code_text (f : Nat → Int) (hf : ∀ i, 0 ≤ f i ∧ f i ≤ 255) (W : World) (a : Addr) (cap : Nat) (hc : ∀ j, j < 12 → W.cell? (a.add j) = some (.int .u8 (f j))) :
    (convert 167 9 (.slice (some a) 12 cap)).run Tryz.prog W = .ok (.string (codeB f)) W := by
  have hl : (codeL f).length = 12 := by simp [codeL]
  have := run_convert_bytes_back (P := Tryz.prog) W 167 9 5 a cap (codeL f) Tryz.underlying167 Tryz.underlying5 Tryz.underlying9 (fun j hj => by
    rw [hc j (by omega)]
    have e : (codeL f)[j] = UInt8.ofNat (f j).toNat := by simp [codeL]
    rw [e, u8_back (hf j)])
  rw [hl] at this
  exact this
theorem own_text (f : Nat → Int) (hf : ∀ i, 0 ≤ f i ∧ f i ≤ 255) (W : World) (base : Nat) (A : Option Addr) (c : Nat) (h : W.ownsRow base 5 1 (.slice A 12 c) 12 (codeU f 12)) :
    (convert 167 9 (.slice A 12 c)).run Tryz.prog W = .ok (.string (codeB f)) W := by
  rcases h.2 with ⟨h1, h2⟩ | ⟨g, cap, cur, e, hb, hg, h1, h2, h3, h4⟩
  · cases h2
  · injection e with e1 e2 e3
    subst e1 e3
    refine code_text f hf W ⟨g, 0, none⟩ c fun j hj => ?_
    have hadd : (⟨g, 0, none⟩ : Addr).add j = ⟨g, j, none⟩ := by unfold Addr.add; split <;> simp_all
    rw [hadd, cell_of_row W g j cur _ _ hg, ← Array.getElem?_toList]
    have : (cur.toList.take (12 * 1))[j]? = (codeU f 12)[j]? := by rw [h4]
    rw [List.getElem?_take_of_lt (by omega)] at this
    rw [this]
    simp [codeU, hj]
theorem refCode_any (f : Nat → Int) (hf : ∀ i, 0 ≤ f i ∧ f i ≤ 255) (w : World) :
    Calls Tryz.prog 132 #[.agg (codeV f)] w fun e w' => e = .returned (.string (codeB f)) ∧ Below w.heap.size w w' := by
  obtain ⟨i0, hi, hz0, hz1, hz2⟩ := Sp.info_of A_infoB
  have HF := Lib.hid hf
  clear hf
  have HA := Lib.hid (codeV_at f)
  have hz : (w.alloc (.cells (codeV f) 23)).heap.size = w.heap.size + 1 := by simp
  have HG := Lib.hid (heap_alloc_new w (.cells (codeV f) 23))
  generalize hcs : codeV f = CS at HA HG hz ⊢
  clear hcs
  go_enter Tryz.func132, Tryz.ntmps132
  go_wp2
  go_loopg [3, 4] 12 (fun g v vi wr => ∃ (k : Nat), vi = .int .i64 k ∧ k ≤ 12 ∧ 12 - k ≤ g ∧ Hid (wr.ownsRow (w.heap.size + 1) 5 1 v k (codeU f k)) ∧ Hid (Below (w.heap.size + 1) (w.alloc (.cells CS 23)) wr))
  case atStart => exact ⟨0, rfl, by omega, by omega, (show World.ownsRow _ _ _ _ _ _ _ from Sp.ow_nil _ _ _ _), by have := bl_refl (w.alloc (.cells CS 23)); rw [hz] at this; exact Lib.hid this⟩
  case round =>
    obtain ⟨k, rfl, hk, hg, OW, HB⟩ := hrel
    obtain ⟨A1, c1, e1⟩ := Sp.ow_slice OW.out
    subst e1
    by_cases hlt : k < 12
    · have hltz : (k : Int) < 12 := by omega
      have hsz := HB.out.size
      have hc : wr.cell? ⟨w.heap.size, k, none⟩ = some (.int .u8 (f k)) := by
        have : wr.heap[w.heap.size]? = some (.cells CS 23 (0, 0)) := by rw [HB.out.block w.heap.size (by omega)]; exact HG.out
        rw [cell_of_row wr w.heap.size k CS _ _ this]
        exact HA.out k hlt
      have NX := Lib.hid (codeU_next f k)
      obtain ⟨x, hx⟩ : ∃ x, x = f k := ⟨_, rfl⟩
      rw [← hx] at hc NX
      clear hx
      have hsz2 : w.heap.size + 1 ≤ wr.heap.size := by rw [hz] at hsz; exact hsz
      clear hsz
      go_wp2_with (first | (at_builtin; refine wpList_append_own _ rfl _ _ 167 rfl (w.heap.size + 1) 5 i0 (.int .u8 0) 1 1 Tryz.underlying167 hi hz0 hz1 hz2 rfl (by decide) _ _ _ rfl (OW.out.alloc _) ⟨wr.heap.size, 0, none⟩ 1 1 [.int .u8 x] rfl rfl ?c1 ?c2 ?c3 ?c4 ?c5 ?_))
      case c1 => exact cell_one_new _ _ _
      case c2 => simp [Value.oneCell']
      case c3 => simp only [maxLen]; omega
      case c4 => omega
      case c5 => simp; omega
      intro v' w1 hown' hgrow _
      have hb1 := Lib.hid (Sp.ow_below _ OW.out HB.out hsz2 hgrow)
      have OW2 : Hid (w1.ownsRow (w.heap.size + 1) 5 1 v' (k + 1) (codeU f (k + 1))) := (show World.ownsRow _ _ _ _ _ _ _ from by
        rw [NX.out]
        exact hown')
      clear hown' hgrow
      go_wp2
      go_roundg (12 - (k + 1))
      case measure => omega
      case rel => exact ⟨k + 1, by go_num, by omega, by omega, OW2, hb1⟩
    · have e : k = 12 := by omega
      subst e
      have CT := own_text f HF.out wr _ A1 c1 OW.out
      have HB3 : Hid (Below w.heap.size w wr) := Lib.hid (bl_then (bl_alloc (bl_refl w) (.cells CS 23)) (by rw [hz]; exact HB.out))
      clear hlt HB OW
      go_wp2
      go_ret
      exact ⟨rfl, HB3.out⟩
/-! ### the document's Isin -/
theorem own_read {W : World} {base n : Nat} {A : Option Addr} {c : Nat} {ds : List Int} (h : W.ownsRow base 3 1 (.slice A n c) n (Sp.ints ds)) (hn : ds.length = n) :
    ∀ i, i < n → ∃ ad, A = some ad ∧ W.cell? (ad.add i) = some (.int .i64 (ds.getD i 0)) := by
  rcases h.2 with ⟨h1, h2⟩ | ⟨g, cap, cur, e, hb, hg, h1, h2, h3, h4⟩
  · intro i hi; omega
  · injection e with e1 e2 e3
    subst e1 e3
    intro i hi
    refine ⟨_, rfl, ?_⟩
    have hadd : (⟨g, 0, none⟩ : Addr).add i = ⟨g, i, none⟩ := by unfold Addr.add; split <;> simp_all
    rw [hadd, cell_of_row W g i cur _ _ hg, ← Array.getElem?_toList]
    have : (cur.toList.take (n * 1))[i]? = (Sp.ints ds)[i]? := by rw [h4]
    rw [List.getElem?_take_of_lt (by omega)] at this
    rw [this]
    have hil : i < ds.length := by omega
    simp [Sp.ints, List.getElem?_map, List.getElem?_eq_getElem hil, List.getD_eq_getElem?_getD]
theorem refIsin_any (s : ByteArray) (hs : s.size ≤ 140737488351232) (w : World) :
    Calls Tryz.prog 131 #[.string s] w fun e w' => ∃ n a : Int, e = .returned (.tuple #[.int .i64 n, .int .i64 a]) ∧ (n == 0) = isinOK s ∧ Below w.heap.size w w' := by
  have HA : Hid (∀ w, Calls Tryz.prog 154 #[.string s, .string ⟨#[67, 67, 83, 83, 83, 83, 83, 83, 83, 83, 83, 68]⟩] w fun e w' => ∃ n a : Int, e = .returned (.tuple #[.int .i64 n, .int .i64 a]) ∧ (n == 0) = hasOK s formI ∧ Below w.heap.size w w') := Lib.hid (fun w => refHas_any s formI letsI hs (by decide) w)
  cases hk : hasOK s formI with
  | false =>
    rw [hk] at HA
    have HK : Hid (isinOK s = false) := Lib.hid (by unfold isinOK; rw [hk]; rfl)
    clear hk
    go_enter Tryz.func131, Tryz.ntmps131
    go_wp2_with (go_at_call 154; with_reducible refine (HA.out _).mono ?_; rintro e w1 ⟨n, a, rfl, hn, hb⟩)
    go_ret2
    first | exact ⟨n, a, rfl, by rw [HK.out]; exact hn, hb⟩ | exact ⟨n, ⟨a, rfl⟩, by rw [HK.out]; exact hn, hb⟩
  | true =>
    rw [hk] at HA
    obtain ⟨h12, hsg⟩ := has_fits hk
    have h12' : s.size = 12 := h12
    have LS := Lib.hid (fun w => refSpread_any s (by omega) hsg w)
    have LL : Hid (∀ (A : Option Addr) (c : Nat) (W : World) (base : Nat), W.ownsRow base 3 1 (.slice A (spreadS s s.size).length c) (spreadS s s.size).length (Sp.ints (spreadS s s.size)) → Calls Tryz.prog 155 #[.slice A (spreadS s s.size).length c] W fun e w' => e = .returned (.int .i64 (luhn1 (spreadS s s.size))) ∧ W = w') :=
      Lib.hid (fun A c W base h => refLuhn_any A _ c (spreadS s s.size) W rfl (spread_dig s.size hsg) (own_read h rfl) (by have := spread_len s s.size; omega))
    have HK : Hid (isinOK s = (luhn1 (spreadS s s.size) % 10 == 0)) := Lib.hid (by unfold isinOK sumOK; rw [hk]; rfl)
    have h0 : 0 ≤ luhn1 (spreadS s s.size) := (alt_nonneg false (spreadS s s.size).reverse (fun d hd => spread_dig s.size hsg d (List.mem_reverse.1 hd))).1
    generalize spreadS s s.size = ds at LS LL HK h0
    generalize luhn1 ds = m at LL HK h0
    have q1 : m.tmod 10 = m % 10 := Int.tmod_eq_emod_of_nonneg h0
    clear hk hsg h12 h12'
    cases hm : (m % 10 == 0) with
    | true =>
      rw [hm] at HK
      have hm2 : (m % 10 != 0) = false := by simp only [bne, hm]; rfl
      clear hm
      go_enter Tryz.func131, Tryz.ntmps131
      go_wp2_with (first | (go_at_call 154; with_reducible refine (HA.out _).mono ?_; rintro e w1 ⟨n, a, rfl, hn, hb⟩) | (go_at_call 156; with_reducible refine (LS.out _).mono ?_; rintro e w2 ⟨v, rfl, hown, hb2⟩; obtain ⟨A1, c1, e1⟩ := Sp.ow_slice hown; subst e1; have LU := Lib.hid (LL.out A1 c1 _ _ hown); clear hown) | (go_at_call 155; with_reducible refine (LU.out).mono ?_; rintro e w3 ⟨rfl, rfl⟩))
      go_ret2
      first | exact ⟨n, a, rfl, by rw [HK.out]; exact hn, bl_then hb hb2⟩ | exact ⟨n, ⟨a, rfl⟩, by rw [HK.out]; exact hn, bl_then hb hb2⟩
    | false =>
      rw [hm] at HK
      have hm2 : (m % 10 != 0) = true := by simp only [bne, hm]; rfl
      clear hm
      go_enter Tryz.func131, Tryz.ntmps131
      go_wp2_with (first | (go_at_call 154; with_reducible refine (HA.out _).mono ?_; rintro e w1 ⟨n, a, rfl, hn, hb⟩) | (go_at_call 156; with_reducible refine (LS.out _).mono ?_; rintro e w2 ⟨v, rfl, hown, hb2⟩; obtain ⟨A1, c1, e1⟩ := Sp.ow_slice hown; subst e1; have LU := Lib.hid (LL.out A1 c1 _ _ hown); clear hown) | (go_at_call 155; with_reducible refine (LU.out).mono ?_; rintro e w3 ⟨rfl, rfl⟩))
      go_ret2
      first | exact ⟨7, 0, rfl, by rw [HK.out]; rfl, bl_then hb hb2⟩ | exact ⟨7, ⟨0, rfl⟩, by rw [HK.out]; rfl, bl_then hb hb2⟩
end Go.Proofs.YtphabkaiheplpaaGreatDoor
/- The thirteen checks of a notice, by contracts. -/
set_option linter.unusedVariables false
set_option linter.unusedSimpArgs false
set_option maxRecDepth 100000
namespace Go.Proofs.YtphabkaiheplpaaGreatDoor
open Go.RowKit Go.Shelf

def empS (s : ByteArray) : Bool := s.toList.isEmpty
/-- What is wrong with a notice, by the checks in their order. -/
def wrong0 (x : Nt) : Bool := !refOK x.ref
def wrong1 (x : Nt) : Bool := if x.cancel then !refOK x.prev else !empS x.prev
def wrong2 (x : Nt) : Bool := !dayB x.trade || !dayB x.settle || decide (x.settle < x.trade)
def wrong3 (x : Nt) : Bool := !isinOK (codeB x.code)
def wrong4 (x : Nt) : Bool := decide (x.qty < 1)
def wrong5 (x : Nt) : Bool := !accOK x.account
def wrong6 (x : Nt) : Bool := !bicOK x.agent
def wrong7 (x : Nt) : Bool := !accOK x.other
def wrong8 (x : Nt) : Bool := x.pay && decide (x.amount < 1)
def wrong9 (x : Nt) : Bool := x.pay && !hasOK x.currency formC
def wrong10 (x : Nt) : Bool := !x.pay && (x.amount != 0 || !empS x.currency)
def wrong11 (x : Nt) : Bool := decide (x.priority < 0) || decide (9999 < x.priority)
def wrong12 (x : Nt) : Bool := decide (16 < (x.ln : Int))
theorem note_at (x : Nt) : (noteC x)[0]? = some (.string x.ref) ∧ (noteC x)[1]? = some (.string x.prev) ∧ (noteC x)[2]? = some (.bool x.cancel) ∧ (noteC x)[4]? = some (.bool x.pay) ∧ (noteC x)[5]? = some (.int .i64 x.trade) ∧ (noteC x)[6]? = some (.int .i64 x.settle) ∧
    (noteC x)[19]? = some (.int .i64 x.qty) ∧ (noteC x)[20]? = some (.string x.account) ∧ (noteC x)[21]? = some (.string x.agent) ∧ (noteC x)[22]? = some (.string x.other) ∧ (noteC x)[23]? = some (.int .i64 x.amount) ∧ (noteC x)[24]? = some (.string x.currency) ∧ (noteC x)[25]? = some (.int .i64 x.priority) ∧ (noteC x)[26]? = some (.slice x.la x.ln x.lc) :=
  ⟨rfl, rfl, rfl, rfl, rfl, rfl, rfl, rfl, rfl, rfl, rfl, rfl, rfl, rfl⟩
theorem refused_any (E : GErr) (w : World) : Calls Tryz.prog 90 #[E.val] w fun e w' => e = .returned (.bool (!E.isNil)) ∧ w = w' := by
  have ne := fun w => ne_of (E := E) rfl w
  have gn := fun x c w => guard_errN E x c w
  go_enter Tryz.func90, Tryz.ntmps90
  go_wp2
  go_ret
  exact ⟨rfl, rfl⟩
theorem refIs_any (n : Int) (w : World) : Calls Tryz.prog 130 #[.int .i64 n] w fun e w' => e = .returned (.bool (dayB n)) ∧ w = w' := by
  go_enter Tryz.func130, Tryz.ntmps130
  go_wp2
  all_goals go_ret
  all_goals exact ⟨ret_b (by first | (simp [dayB]; omega) | (symm; simp [dayB]; omega) | (rw [Bool.eq_iff_iff]; simp [dayB]; omega)), rfl⟩
theorem check1_any (x : Nt) (hx : x.wf) (w : World) (hp : PowT w) :
    Calls Tryz.prog 84 #[.agg (noteC x)] w fun e w' => e = .returned (.bool (wrong0 x)) ∧ Below w.heap.size w w' := by
  obtain ⟨a0, a1, a2, a4, a5, a6, a19, a20, a21, a22, a23, a24, a25, a26⟩ := note_at x
  have HR := Lib.hid (fun w => reference_any x.ref hx.ref w)
  generalize hNX : noteC x = NX at a0 a1 a2 a4 a5 a6 a19 a20 a21 a22 a23 a24 a25 a26 ⊢
  clear hNX
  go_enter Tryz.func84, Tryz.ntmps84
  go_wp2_with (go_at_call 63; with_reducible refine (HR.out _).mono ?_; rintro e w1 ⟨rfl, hb⟩)
  go_ret
  exact ⟨rfl, bl_then (bl_alloc (bl_refl w) _) hb⟩
theorem check2_any (x : Nt) (hx : x.wf) (w : World) (hp : PowT w) :
    Calls Tryz.prog 85 #[.agg (noteC x)] w fun e w' => e = .returned (.bool (wrong1 x)) ∧ Below w.heap.size w w' := by
  obtain ⟨a0, a1, a2, a4, a5, a6, a19, a20, a21, a22, a23, a24, a25, a26⟩ := note_at x
  have HR := Lib.hid (fun w => reference_any x.prev hx.prev w)
  have HW : Hid (wrong1 x = if x.cancel then !refOK x.prev else !empS x.prev) := Lib.hid rfl
  unfold empS at HW
  generalize hNX : noteC x = NX at a0 a1 a2 a4 a5 a6 a19 a20 a21 a22 a23 a24 a25 a26 ⊢
  clear hNX
  cases hc : x.cancel with
  | true =>
    rw [hc] at a2 HW
    clear hc
    cases hr : refOK x.prev with
    | true =>
      rw [hr] at HR HW
      clear hr
      go_enter Tryz.func85, Tryz.ntmps85
      go_wp2_with (go_at_call 63; with_reducible refine (HR.out _).mono ?_; rintro e w1 ⟨rfl, hb⟩; obtain ⟨kc1, kf1⟩ := bcell hb)
      go_ret
      exact ⟨by rw [HW.out]; rfl, bl_then (bl_alloc (bl_refl w) _) hb⟩
    | false =>
      rw [hr] at HR HW
      clear hr
      go_enter Tryz.func85, Tryz.ntmps85
      go_wp2_with (go_at_call 63; with_reducible refine (HR.out _).mono ?_; rintro e w1 ⟨rfl, hb⟩)
      go_ret
      exact ⟨by rw [HW.out]; rfl, bl_then (bl_alloc (bl_refl w) _) hb⟩
  | false =>
    rw [hc] at a2 HW
    clear hc HR
    go_enter Tryz.func85, Tryz.ntmps85
    go_wp2
    go_ret
    exact ⟨by rw [HW.out]; rfl, bl_alloc (bl_refl w) _⟩
theorem check5_any (x : Nt) (hx : x.wf) (w : World) (hp : PowT w) :
    Calls Tryz.prog 91 #[.agg (noteC x)] w fun e w' => e = .returned (.bool (wrong4 x)) ∧ Below w.heap.size w w' := by
  obtain ⟨a0, a1, a2, a4, a5, a6, a19, a20, a21, a22, a23, a24, a25, a26⟩ := note_at x
  generalize hNX : noteC x = NX at a0 a1 a2 a4 a5 a6 a19 a20 a21 a22 a23 a24 a25 a26 ⊢
  clear hNX
  go_enter Tryz.func91, Tryz.ntmps91
  go_wp2
  go_ret
  exact ⟨rfl, bl_alloc (bl_refl w) _⟩
theorem check6_any (x : Nt) (hx : x.wf) (w : World) (hp : PowT w) :
    Calls Tryz.prog 92 #[.agg (noteC x)] w fun e w' => e = .returned (.bool (wrong5 x)) ∧ Below w.heap.size w w' := by
  obtain ⟨a0, a1, a2, a4, a5, a6, a19, a20, a21, a22, a23, a24, a25, a26⟩ := note_at x
  have HR := Lib.hid (fun w hp => account_any x.account hx.account w hp)
  have HP := Lib.hid (hp.below (bl_alloc (bl_refl w) (.cells (noteC x) 26)))
  have HU := Lib.hid refused_any
  generalize hNX : noteC x = NX at HP a0 a1 a2 a4 a5 a6 a19 a20 a21 a22 a23 a24 a25 a26 ⊢
  clear hNX
  go_enter Tryz.func92, Tryz.ntmps92
  go_wp2_with (first | (go_at_call 93; with_reducible refine (HR.out _ HP.out).mono ?_; rintro e w1 ⟨E, rfl, hE, hEok, hb⟩) | (go_at_call 90; with_reducible refine (HU.out _ _).mono ?_; rintro e w2 ⟨rfl, rfl⟩))
  go_ret
  exact ⟨rfl, bl_then (bl_alloc (bl_refl w) _) hb⟩
theorem check8_any (x : Nt) (hx : x.wf) (w : World) (hp : PowT w) :
    Calls Tryz.prog 95 #[.agg (noteC x)] w fun e w' => e = .returned (.bool (wrong7 x)) ∧ Below w.heap.size w w' := by
  obtain ⟨a0, a1, a2, a4, a5, a6, a19, a20, a21, a22, a23, a24, a25, a26⟩ := note_at x
  have HR := Lib.hid (fun w hp => account_any x.other hx.other w hp)
  have HP := Lib.hid (hp.below (bl_alloc (bl_refl w) (.cells (noteC x) 26)))
  have HU := Lib.hid refused_any
  generalize hNX : noteC x = NX at HP a0 a1 a2 a4 a5 a6 a19 a20 a21 a22 a23 a24 a25 a26 ⊢
  clear hNX
  go_enter Tryz.func95, Tryz.ntmps95
  go_wp2_with (first | (go_at_call 93; with_reducible refine (HR.out _ HP.out).mono ?_; rintro e w1 ⟨E, rfl, hE, hEok, hb⟩) | (go_at_call 90; with_reducible refine (HU.out _ _).mono ?_; rintro e w2 ⟨rfl, rfl⟩))
  go_ret
  exact ⟨rfl, bl_then (bl_alloc (bl_refl w) _) hb⟩
theorem check9_any (x : Nt) (hx : x.wf) (w : World) (hp : PowT w) :
    Calls Tryz.prog 96 #[.agg (noteC x)] w fun e w' => e = .returned (.bool (wrong8 x)) ∧ Below w.heap.size w w' := by
  obtain ⟨a0, a1, a2, a4, a5, a6, a19, a20, a21, a22, a23, a24, a25, a26⟩ := note_at x
  have HW : Hid (wrong8 x = (x.pay && decide (x.amount < 1))) := Lib.hid rfl
  generalize hNX : noteC x = NX at a0 a1 a2 a4 a5 a6 a19 a20 a21 a22 a23 a24 a25 a26 ⊢
  clear hNX
  cases hc : x.pay <;> rw [hc] at a4 HW <;> clear hc
  · go_enter Tryz.func96, Tryz.ntmps96
    go_wp2
    go_ret
    exact ⟨by rw [HW.out]; rfl, bl_alloc (bl_refl w) _⟩
  · go_enter Tryz.func96, Tryz.ntmps96
    go_wp2
    go_ret
    exact ⟨by rw [HW.out]; rfl, bl_alloc (bl_refl w) _⟩
theorem check10_any (x : Nt) (hx : x.wf) (w : World) (hp : PowT w) :
    Calls Tryz.prog 97 #[.agg (noteC x)] w fun e w' => e = .returned (.bool (wrong9 x)) ∧ Below w.heap.size w w' := by
  obtain ⟨a0, a1, a2, a4, a5, a6, a19, a20, a21, a22, a23, a24, a25, a26⟩ := note_at x
  have HW : Hid (wrong9 x = (x.pay && !hasOK x.currency formC)) := Lib.hid rfl
  have HR : Hid (∀ w, PowT w → Calls Tryz.prog 98 #[.string x.currency] w fun e w' => ∃ E : GErr, e = .returned E.val ∧ E.isNil = hasOK x.currency formC ∧ E.ok ∧ Below w.heap.size w w') := Lib.hid (fun w hp => currency_any x.currency hx.currency w hp)
  have HP := Lib.hid (hp.below (bl_alloc (bl_refl w) (.cells (noteC x) 26)))
  have HU := Lib.hid refused_any
  generalize hNX : noteC x = NX at HP a0 a1 a2 a4 a5 a6 a19 a20 a21 a22 a23 a24 a25 a26 ⊢
  clear hNX
  cases hc : x.pay <;> rw [hc] at a4 HW <;> clear hc
  · go_enter Tryz.func97, Tryz.ntmps97
    go_wp2
    go_ret
    exact ⟨by rw [HW.out]; rfl, bl_alloc (bl_refl w) _⟩
  · go_enter Tryz.func97, Tryz.ntmps97
    go_wp2_with (first | (go_at_call 98; with_reducible refine (HR.out _ HP.out).mono ?_; rintro e w1 ⟨E, rfl, hE, hEok, hb⟩) | (go_at_call 90; with_reducible refine (HU.out _ _).mono ?_; rintro e w2 ⟨rfl, rfl⟩))
    go_ret
    exact ⟨by rw [HW.out, ← hE]; rfl, bl_then (bl_alloc (bl_refl w) _) hb⟩
theorem check11_any (x : Nt) (hx : x.wf) (w : World) (hp : PowT w) :
    Calls Tryz.prog 99 #[.agg (noteC x)] w fun e w' => e = .returned (.bool (wrong10 x)) ∧ Below w.heap.size w w' := by
  obtain ⟨a0, a1, a2, a4, a5, a6, a19, a20, a21, a22, a23, a24, a25, a26⟩ := note_at x
  have HW : Hid (wrong10 x = (!x.pay && (x.amount != 0 || !empS x.currency))) := Lib.hid rfl
  unfold empS at HW
  generalize hNX : noteC x = NX at a0 a1 a2 a4 a5 a6 a19 a20 a21 a22 a23 a24 a25 a26 ⊢
  clear hNX
  cases hc : x.pay <;> rw [hc] at a4 HW <;> clear hc
  · cases hm : (x.amount != 0) <;> rw [hm] at HW
    · go_enter Tryz.func99, Tryz.ntmps99
      go_wp2
      go_ret
      exact ⟨by rw [HW.out]; rfl, bl_alloc (bl_refl w) _⟩
    · go_enter Tryz.func99, Tryz.ntmps99
      go_wp2
      go_ret
      exact ⟨by rw [HW.out]; rfl, bl_alloc (bl_refl w) _⟩
  · go_enter Tryz.func99, Tryz.ntmps99
    go_wp2
    go_ret
    exact ⟨by rw [HW.out]; rfl, bl_alloc (bl_refl w) _⟩
theorem check12_any (x : Nt) (hx : x.wf) (w : World) (hp : PowT w) :
    Calls Tryz.prog 100 #[.agg (noteC x)] w fun e w' => e = .returned (.bool (wrong11 x)) ∧ Below w.heap.size w w' := by
  obtain ⟨a0, a1, a2, a4, a5, a6, a19, a20, a21, a22, a23, a24, a25, a26⟩ := note_at x
  have HW : Hid (wrong11 x = (decide (x.priority < 0) || decide (9999 < x.priority))) := Lib.hid rfl
  generalize hNX : noteC x = NX at a0 a1 a2 a4 a5 a6 a19 a20 a21 a22 a23 a24 a25 a26 ⊢
  clear hNX
  by_cases h : x.priority < 0
  · go_enter Tryz.func100, Tryz.ntmps100
    go_wp2
    go_ret
    exact ⟨by rw [HW.out]; simp [h, go_sem], bl_alloc (bl_refl w) _⟩
  · go_enter Tryz.func100, Tryz.ntmps100
    go_wp2
    go_ret
    exact ⟨by rw [HW.out]; simp [go_sem]; omega, bl_alloc (bl_refl w) _⟩
theorem check13_any (x : Nt) (hx : x.wf) (w : World) (hp : PowT w) :
    Calls Tryz.prog 101 #[.agg (noteC x)] w fun e w' => e = .returned (.bool (wrong12 x)) ∧ Below w.heap.size w w' := by
  obtain ⟨a0, a1, a2, a4, a5, a6, a19, a20, a21, a22, a23, a24, a25, a26⟩ := note_at x
  generalize hNX : noteC x = NX at a0 a1 a2 a4 a5 a6 a19 a20 a21 a22 a23 a24 a25 a26 ⊢
  clear hNX
  go_enter Tryz.func101, Tryz.ntmps101
  go_wp2
  go_ret
  exact ⟨rfl, bl_alloc (bl_refl w) _⟩
theorem check3_any (x : Nt) (hx : x.wf) (w : World) (hp : PowT w) :
    Calls Tryz.prog 86 #[.agg (noteC x)] w fun e w' => e = .returned (.bool (wrong2 x)) ∧ Below w.heap.size w w' := by
  obtain ⟨a0, a1, a2, a4, a5, a6, a19, a20, a21, a22, a23, a24, a25, a26⟩ := note_at x
  have H1 := Lib.hid (fun w => calOf_any x.trade w)
  have H2 := Lib.hid (fun w => calOf_any x.settle w)
  have HW : Hid (wrong2 x = (!dayB x.trade || !dayB x.settle || decide (x.settle < x.trade))) := Lib.hid rfl
  generalize hNX : noteC x = NX at a0 a1 a2 a4 a5 a6 a19 a20 a21 a22 a23 a24 a25 a26 ⊢
  clear hNX a0 a1 a2 a4 a19 a20 a21 a22 a23 a24 a25 a26
  generalize dayB x.trade = d1 at H1 HW
  generalize dayB x.settle = d2 at H2 HW
  generalize x.trade = t1 at H1 HW a5
  generalize x.settle = t2 at H2 HW a6
  have B0 := Lib.hid (bl_alloc (bl_refl w) (.cells NX 26))
  have hcell := fun (W : World) (hb : Below (w.alloc (.cells NX 26)).heap.size (w.alloc (.cells NX 26)) W) => (⟨bl_cell (a := ⟨w.heap.size, 5, none⟩) (v := .int .i64 t1) hb (by simp [a5]), bl_cell (a := ⟨w.heap.size, 6, none⟩) (v := .int .i64 t2) hb (by simp [a6])⟩ : W.cell? ⟨w.heap.size, 5, none⟩ = some (.int .i64 t1) ∧ W.cell? ⟨w.heap.size, 6, none⟩ = some (.int .i64 t2))
  have HC := Lib.hid hcell
  clear hcell
  go_enter Tryz.func86, Tryz.ntmps86
  go_upto_region 2 with (go_at_call 87; with_reducible refine (H1.out _).mono ?_; rintro e w1 ⟨p1, p2, p3, E1, rfl, hE1, hb1⟩; have HB1 := Lib.hid hb1; clear hb1)
  have HB1' := Lib.hid (bl_alloc HB1.out (.cells #[.int .i64 p1, .int .i64 p2, .int .i64 p3] 162))
  obtain ⟨cx1, cx2⟩ := HC.out _ HB1'.out
  have ne1 := fun w => ne_of hE1 w
  have gn1 := fun x c w => guard_errN E1 x c w
  clear hE1
  go_upto_region 3 with (go_at_call 87; with_reducible refine (H2.out _).mono ?_; rintro e w2 ⟨q1, q2, q3, E2, rfl, hE2, hb2⟩; have HB2 := Lib.hid (bl_then HB1'.out hb2); clear hb2)
  clear cx1 cx2
  have HB2' := Lib.hid (bl_alloc HB2.out (.cells #[.int .i64 q1, .int .i64 q2, .int .i64 q3] 162))
  obtain ⟨cx1, cx2⟩ := HC.out _ HB2'.out
  have ne2 := fun w => ne_of hE2 w
  have gn2 := fun x c w => guard_errN E2 x c w
  clear hE2
  have HBZ := Lib.hid (bl_then (bl_alloc (bl_refl w) (.cells NX 26)) HB2'.out)
  cases d1 <;> cases d2
  all_goals go_wp2
  all_goals go_ret
  all_goals exact ⟨by rw [HW.out]; simp [go_sem], HBZ.out⟩
theorem zeros12_size : zeros12.size = 12 := rfl
theorem check4_any (x : Nt) (hx : x.wf) (w : World) (hp : PowT w) :
    Calls Tryz.prog 88 #[.agg (noteC x)] w fun e w' => e = .returned (.bool (wrong3 x)) ∧ Below w.heap.size w w' := by
  have HU := Lib.hid refused_any
  have HP := Lib.hid (hp.below (bl_alloc (bl_refl w) (.cells (noteC x) 26)))
  have HI := Lib.hid (fun w hp => isin_any (codeB x.code) (by rw [codeB_size]; omega) w hp)
  have HW : Hid (wrong3 x = !isinOK (codeB x.code)) := Lib.hid rfl
  have HC := Lib.hid (code_text x.code hx.code (w.alloc (.cells (noteC x) 26)) ⟨w.heap.size, 7, none⟩ 12 (fun j hj => by
    have hadd : (⟨w.heap.size, 7, none⟩ : Addr).add j = ⟨w.heap.size, 7 + j, none⟩ := by unfold Addr.add; split <;> simp_all
    rw [hadd, cell_of_row _ w.heap.size (7 + j) (noteC x) _ _ (heap_alloc_new w _)]
    exact code_part x j _ (by rw [Array.getElem?_toList]; exact codeV_at x.code j hj)))
  generalize codeB x.code = s at HC HI HW
  generalize isinOK s = ok at HI HW
  generalize hNX : noteC x = NX at HC HP ⊢
  clear hNX
  have hcv := HC.out
  go_enter Tryz.func88, Tryz.ntmps88
  go_wp2_with (first | (go_at_call 89; with_reducible refine (HI.out _ HP.out).mono ?_; rintro e w1 ⟨cs, E, rfl, ⟨hz, ho⟩, hE, hEok, hb⟩; have HS := Lib.hid (storeVar_new Tryz.prog w1 23 23 zeros12 cs (by rw [hz]; exact code_size) (zeros12_size.trans hz.symm) ho)) | (refine wpList_store_plain rfl rfl 23 (.tmp 3) (.tmp 10) rfl ⟨w1.heap.size, 0, none⟩ (.agg cs) rfl rfl HS.out ?_) | (go_at_call 90; with_reducible refine (HU.out _ _).mono ?_; rintro e w2 ⟨rfl, rfl⟩))
  go_ret
  exact ⟨by rw [HW.out, ← hE]; rfl, bl_then (bl_alloc (bl_refl w) _) (bl_alloc hb _)⟩
theorem check7_any (x : Nt) (hx : x.wf) (w : World) (hp : PowT w) :
    Calls Tryz.prog 94 #[.agg (noteC x)] w fun e w' => e = .returned (.bool (wrong6 x)) ∧ Below w.heap.size w w' := by
  obtain ⟨a0, a1, a2, a4, a5, a6, a19, a20, a21, a22, a23, a24, a25, a26⟩ := note_at x
  have HU := Lib.hid refused_any
  have HP := Lib.hid (hp.below (bl_alloc (bl_refl w) (.cells (noteC x) 26)))
  have HI : Hid (∀ w, PowT w → Calls Tryz.prog 60 #[.string x.agent] w fun e w' => ∃ E : GErr, e = .returned (.tuple #[.agg #[.string (bicP x.agent 0), .string (bicP x.agent 1), .string (bicP x.agent 2), .string (bicP x.agent 3)], E.val]) ∧ E.isNil = bicOK x.agent ∧ E.ok ∧ Below w.heap.size w w') := Lib.hid (fun w hp => bic_any x.agent hx.agent w hp)
  have HW : Hid (wrong6 x = !bicOK x.agent) := Lib.hid rfl
  generalize hNX : noteC x = NX at HP a0 a1 a2 a4 a5 a6 a19 a20 a21 a22 a23 a24 a25 a26 ⊢
  clear hNX
  generalize bicOK x.agent = ok at HI HW
  go_enter Tryz.func94, Tryz.ntmps94
  go_wp2_with (first | (go_at_call 60; with_reducible refine (HI.out _ HP.out).mono ?_; rintro e w1 ⟨E, rfl, hE, hEok, hb⟩) | (go_at_call 90; with_reducible refine (HU.out _ _).mono ?_; rintro e w2 ⟨rfl, rfl⟩))
  go_ret
  exact ⟨by rw [HW.out, ← hE]; rfl, bl_then (bl_alloc (bl_refl w) _) (bl_alloc hb _)⟩
end Go.Proofs.YtphabkaiheplpaaGreatDoor
/- notice.checks, and what the thirteen checks find first. -/
set_option linter.unusedVariables false
set_option linter.unusedSimpArgs false
set_option maxRecDepth 100000
namespace Go.Proofs.YtphabkaiheplpaaGreatDoor
open Go.RowKit Go.Shelf

def wrongK (x : Nt) : Nat → Bool
  | 0 => wrong0 x | 1 => wrong1 x | 2 => wrong2 x | 3 => wrong3 x | 4 => wrong4 x | 5 => wrong5 x | 6 => wrong6 x | 7 => wrong7 x | 8 => wrong8 x | 9 => wrong9 x | 10 => wrong10 x | 11 => wrong11 x | 12 => wrong12 x | _ => false
def noK : Nat → Int
  | 0 => 6 | 1 => 6 | 2 => 8 | 3 => 4 | 4 => 16 | 5 => 14 | 6 => 4 | 7 => 14 | 8 => 16 | 9 => 4 | 10 => 1 | 11 => 1 | 12 => 5 | _ => 1
def fK : Nat → Nat
  | 0 => 84 | 1 => 85 | 2 => 86 | 3 => 88 | 4 => 91 | 5 => 92 | 6 => 94 | 7 => 95 | 8 => 96 | 9 => 97 | 10 => 99 | 11 => 100 | _ => 101
def headFrom (x : Nt) : Nat → Nat → Int
  | _, 0 => 0
  | k, n + 1 => if wrongK x k then noK k else headFrom x (k + 1) n
def headE (x : Nt) : Int := headFrom x 0 13
theorem noK_range (k : Nat) : 1 ≤ noK k ∧ noK k ≤ 24 := by
  unfold noK
  split <;> omega
def cellsK : Array Value := #[.int .i64 6, .func (.func 84) #[] #[], .int .i64 6, .func (.func 85) #[] #[], .int .i64 8, .func (.func 86) #[] #[], .int .i64 4, .func (.func 88) #[] #[], .int .i64 16, .func (.func 91) #[] #[], .int .i64 14, .func (.func 92) #[] #[], .int .i64 4, .func (.func 94) #[] #[], .int .i64 14, .func (.func 95) #[] #[], .int .i64 16, .func (.func 96) #[] #[], .int .i64 4, .func (.func 97) #[] #[], .int .i64 1, .func (.func 99) #[] #[], .int .i64 1, .func (.func 100) #[] #[], .int .i64 5, .func (.func 101) #[] #[]]
theorem thirteen {k : Nat} (h : k < 13) : k = 0 ∨ k = 1 ∨ k = 2 ∨ k = 3 ∨ k = 4 ∨ k = 5 ∨ k = 6 ∨ k = 7 ∨ k = 8 ∨ k = 9 ∨ k = 10 ∨ k = 11 ∨ k = 12 := by omega
theorem cellsK_at {k : Nat} (h : k < 13) : cellsK[k * 2]? = some (.int .i64 (noK k)) ∧ cellsK[k * 2 + 1]? = some (.func (.func (fK k)) #[] #[]) := by
  rcases thirteen h with rfl | rfl | rfl | rfl | rfl | rfl | rfl | rfl | rfl | rfl | rfl | rfl | rfl <;> exact ⟨rfl, rfl⟩
theorem checkK_any (x : Nt) (hx : x.wf) {k : Nat} (h : k < 13) (w : World) (hp : PowT w) :
    Calls Tryz.prog (fK k) #[.agg (noteC x)] w fun e w' => e = .returned (.bool (wrongK x k)) ∧ Below w.heap.size w w' := by
  rcases thirteen h with rfl | rfl | rfl | rfl | rfl | rfl | rfl | rfl | rfl | rfl | rfl | rfl | rfl
  · exact check1_any x hx w hp
  · exact check2_any x hx w hp
  · exact check3_any x hx w hp
  · exact check4_any x hx w hp
  · exact check5_any x hx w hp
  · exact check6_any x hx w hp
  · exact check7_any x hx w hp
  · exact check8_any x hx w hp
  · exact check9_any x hx w hp
  · exact check10_any x hx w hp
  · exact check11_any x hx w hp
  · exact check12_any x hx w hp
  · exact check13_any x hx w hp
theorem enterK {k : Nat} (h : k < 13) (args : Array Value) (w : World) : (callFunc (fK k) args).run Tryz.prog w = .ok (.enter (fK k) args) w := by
  rcases thirteen h with rfl | rfl | rfl | rfl | rfl | rfl | rfl | rfl | rfl | rfl | rfl | rfl | rfl <;> kernel_rfl
theorem checks_any (w : World) : Calls Tryz.prog 62 #[] w fun e w' => e = .returned (.slice (some ⟨w.heap.size, 0, none⟩) 13 13) ∧ w' = w.alloc (.cells cellsK 134) := by
  go_enter Tryz.func62, Tryz.ntmps62
  go_wp2
  go_ret
  exact ⟨rfl, rfl⟩
end Go.Proofs.YtphabkaiheplpaaGreatDoor
