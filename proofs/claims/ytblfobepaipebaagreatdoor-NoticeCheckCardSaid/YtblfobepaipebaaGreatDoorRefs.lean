/- References, accounts and the document's Isin, by contracts. -/
import Derived.Test.YtblfobepaipebaaGreatDoorIsin
import Derived.Shelf.Strings.SlTrimAscii
set_option linter.unusedVariables false
set_option linter.unusedSimpArgs false
set_option maxRecDepth 100000
namespace Go.Proofs.YtblfobepaipebaaGreatDoor
open Go.RowKit Go.Shelf

def signB (c : Int) : Bool := digI c || capI c
def signsB (s : ByteArray) : Bool := (List.range s.size).all fun i => signB (byteAt s i)
def refOK (s : ByteArray) : Bool := decide (1 ≤ s.size) && decide (s.size ≤ 16) && signsB s
def accOK (s : ByteArray) : Bool := decide (1 ≤ s.size) && decide (s.size ≤ 34) && signsB s
def signs36 : List UInt8 := [48, 49, 50, 51, 52, 53, 54, 55, 56, 57, 65, 66, 67, 68, 69, 70, 71, 72, 73, 74, 75, 76, 77, 78, 79, 80, 81, 82, 83, 84, 85, 86, 87, 88, 89, 90]
theorem signs36_all : ∀ n, n < 256 → signs36.contains (UInt8.ofNat n) = signB (n : Int) := by decide +kernel
theorem signs36_of (c : UInt8) : signs36.contains c = signB (c.toNat : Int) := by
  have := signs36_all c.toNat c.toNat_lt
  rwa [UInt8.ofNat_toNat] at this
theorem signsB_mem (s : ByteArray) : (∀ c ∈ s.data.toList, signs36.contains c = true) ↔ signsB s = true := by
  unfold signsB
  rw [List.all_eq_true]
  constructor
  · intro h i hi
    have hi := List.mem_range.1 hi
    have := h (s[i]'hi) (List.getElem_mem (l := s.data.toList) (by simpa using hi))
    rw [signs36_of, byteAt_eq s i hi] at this
    exact this
  · intro h c hc
    obtain ⟨i, hi, rfl⟩ := List.getElem_of_mem hc
    have hi' : i < s.size := by simpa using hi
    have := h i (List.mem_range.2 hi')
    rw [← byteAt_eq s i hi'] at this
    rw [signs36_of]
    exact this
theorem dwn {p : UInt8 → Bool} : ∀ l : List UInt8, l.dropWhile p = [] ↔ ∀ x ∈ l, p x = true
  | [] => by simp
  | c :: r => by
    rw [List.dropWhile_cons]
    cases h : p c with
    | true => simp [h, dwn r]
    | false => simp [h]
theorem dwh {p : UInt8 → Bool} : ∀ (l : List UInt8) {a : UInt8} {t : List UInt8}, l.dropWhile p = a :: t → p a = false
  | [], a, t, h => by cases h
  | c :: r, a, t, h => by
    rw [List.dropWhile_cons] at h
    cases hc : p c with
    | true => rw [hc, if_pos rfl] at h; exact dwh r h
    | false =>
      rw [hc, if_neg (by decide)] at h
      injection h with h1 _
      rw [← h1]
      exact hc
theorem dwm {p : UInt8 → Bool} : ∀ (l : List UInt8) {a : UInt8}, a ∈ l.dropWhile p → a ∈ l
  | [], a, h => by cases h
  | c :: r, a, h => by
    rw [List.dropWhile_cons] at h
    cases hc : p c with
    | true => rw [hc, if_pos rfl] at h; exact List.mem_cons_of_mem _ (dwm r h)
    | false => rw [hc, if_neg (by decide)] at h; exact h
theorem trimmed (l cs : List UInt8) : Lib.trimS l cs = [] ↔ ∀ c ∈ l, cs.contains c = true := by
  unfold Lib.trimS Lib.trimLeftS Lib.trimRightS
  rw [dwn]
  constructor
  · intro h c hc
    have h2 : ∀ c, c ∈ l.reverse.dropWhile (cs.contains ·) → cs.contains c = true := fun c hc => h c (List.mem_reverse.2 hc)
    cases hd : l.reverse.dropWhile (cs.contains ·) with
    | nil => exact (dwn _).1 hd c (List.mem_reverse.2 hc)
    | cons a t =>
      have h3 := h2 a (by rw [hd]; simp)
      rw [dwh _ hd] at h3
      cases h3
  · intro h c hc
    exact h c (List.mem_reverse.1 (dwm _ (List.mem_reverse.1 hc)))
theorem trimSigns_any (s : ByteArray) (hs : s.size ≤ 140737488351232) (w : World) : Calls Tryz.prog 86 #[.string s, .string ⟨#[48, 49, 50, 51, 52, 53, 54, 55, 56, 57, 65, 66, 67, 68, 69, 70, 71, 72, 73, 74, 75, 76, 77, 78, 79, 80, 81, 82, 83, 84, 85, 86, 87, 88, 89, 90]⟩] w
    fun e w' => e = .returned (.string ⟨(Lib.trimS s.data.toList signs36).toArray⟩) ∧ Below w.heap.size w w' :=
  Any.strings_Trim_laid Tryz.lays160 (by kernel_rfl) s ⟨#[48, 49, 50, 51, 52, 53, 54, 55, 56, 57, 65, 66, 67, 68, 69, 70, 71, 72, 73, 74, 75, 76, 77, 78, 79, 80, 81, 82, 83, 84, 85, 86, 87, 88, 89, 90]⟩ w (by omega) (by decide) (by
    intro j b hb
    have : ∀ b ∈ signs36, b.toNat < 128 := by decide
    exact this b (List.mem_of_getElem? hb))
def notSign (x : Nat) : Bool := !signB (x : Int)
theorem idx_none (s : ByteArray) (h : ∀ i (hi : i < s.size), (s[i]'hi).toNat < 128 ∧ notSign (s[i]'hi).toNat = false) : ∀ f pos, Lib.idxFuncFrom notSign true s f pos = -1
  | 0, _ => rfl
  | f + 1, pos => by
    unfold Lib.idxFuncFrom
    by_cases hp : pos < s.size
    · obtain ⟨h1, h2⟩ := h pos hp
      rw [if_pos hp, decode_ascii s pos hp h1]
      simp only [h2]
      exact idx_none s h f (pos + 1)
    · rw [if_neg hp]
theorem signFn_any (x : Nat) (w : World) : Calls Tryz.prog 88 #[.int .i32 x] w fun e w' => e = .returned (.bool (notSign x)) ∧ w = w' := by
  go_enter Tryz.func88, Tryz.ntmps88
  go_wp2
  all_goals go_ret
  all_goals exact ⟨ret_b (by first | (simp only [notSign, signB, capI, digI]; simp; omega) | (symm; simp only [notSign, signB, capI, digI]; simp; omega) | (rw [Bool.eq_iff_iff]; simp [notSign, signB, capI, digI]; omega) | (trace_state; skip)), rfl⟩
theorem none_any (s : ByteArray) (hs : signsB s = true) (w : World) : Calls Tryz.prog 87 #[.string s, .func (.func 88) #[] #[]] w fun e w' => e = .returned (.bool false) ∧ Below w.heap.size w w' := by
  have hz : Lib.idxFunc notSign true s = -1 := by
    unfold signsB at hs
    rw [List.all_eq_true] at hs
    refine idx_none s (fun i hi => ?_) _ _
    have := hs i (List.mem_range.2 hi)
    rw [← byteAt_eq s i hi] at this
    refine ⟨?_, by simp only [notSign, this]; rfl⟩
    unfold signB digI capI at this
    simp at this
    omega
  have := Tryz.strings_ContainsFunc_grows 88 #[] (fun args w => by kernel_rfl) notSign s w (fun W x hx hb => (signFn_any x W).mono fun e w' ⟨h1, h2⟩ => ⟨h1, h2 ▸ bl_refl W⟩)
  rw [hz] at this
  exact this
theorem emptyB (l : List UInt8) : ((⟨l.toArray⟩ : ByteArray).toList).isEmpty = l.isEmpty := by rw [ByteArray.toList_eq]
theorem reference_any (s : ByteArray) (hs : s.size ≤ 140737488351232) (w : World) :
    Calls Tryz.prog 32 #[.string s] w fun e w' => e = .returned (.bool (refOK s)) ∧ Below w.heap.size w w' := by
  have HT := Lib.hid (fun w => trimSigns_any s hs w)
  have HR : Hid (refOK s = (decide (1 ≤ s.size) && decide (s.size ≤ 16) && signsB s)) := Lib.hid rfl
  by_cases h1 : 1 ≤ s.size
  · by_cases h2 : s.size ≤ 16
    · have z1 : (1 : Int) ≤ (s.size : Int) := by omega
      have z2 : (s.size : Int) ≤ 16 := by omega
      cases hb : signsB s with
      | true =>
        have e0 : Lib.trimS s.data.toList signs36 = [] := (trimmed _ _).2 ((signsB_mem s).2 hb)
        rw [e0] at HT
        have he : ((⟨([] : List UInt8).toArray⟩ : ByteArray).toList).isEmpty = true := emptyB []
        generalize (⟨([] : List UInt8).toArray⟩ : ByteArray) = z at HT he
        have HN := Lib.hid (fun w => none_any s hb w)
        have HF : Hid (refOK s = true) := Lib.hid (by rw [HR.out, hb]; simp [h1, h2])
        clear hb e0 HR h1 h2
        go_enter Tryz.func32, Tryz.ntmps32
        go_wp2_with (first | (go_at_call 86; with_reducible refine (HT.out _).mono ?_; rintro e w1 ⟨rfl, hb1⟩) | (go_at_call 87; with_reducible refine (HN.out _).mono ?_; rintro e w2 ⟨rfl, hb2⟩))
        go_ret
        exact ⟨by rw [HF.out]; rfl, bl_then hb1 hb2⟩
      | false =>
        have e0 : (Lib.trimS s.data.toList signs36).isEmpty = false := by
          cases hq : Lib.trimS s.data.toList signs36 with
          | nil => rw [(signsB_mem s).1 ((trimmed _ _).1 hq)] at hb; cases hb
          | cons c q => rfl
        have he : ((⟨(Lib.trimS s.data.toList signs36).toArray⟩ : ByteArray).toList).isEmpty = false := (emptyB _).trans e0
        generalize (⟨(Lib.trimS s.data.toList signs36).toArray⟩ : ByteArray) = z at HT he
        have HF : Hid (refOK s = false) := Lib.hid (by rw [HR.out, hb]; simp)
        clear hb e0 HR h1 h2
        go_enter Tryz.func32, Tryz.ntmps32
        go_wp2_with (first | (go_at_call 86; with_reducible refine (HT.out _).mono ?_; rintro e w1 ⟨rfl, hb1⟩))
        go_ret
        exact ⟨by rw [HF.out]; rfl, hb1⟩
    · have z1 : (1 : Int) ≤ (s.size : Int) := by omega
      have z2 : ¬ (s.size : Int) ≤ 16 := by omega
      have HF : Hid (refOK s = false) := Lib.hid (by rw [HR.out]; simp [h2])
      clear HR h1 h2 HT
      go_enter Tryz.func32, Tryz.ntmps32
      go_wp2
      go_ret
      exact ⟨by rw [HF.out]; rfl, bl_refl w⟩
  · have z1 : ¬ (1 : Int) ≤ (s.size : Int) := by omega
    have HF : Hid (refOK s = false) := Lib.hid (by rw [HR.out]; simp; omega)
    clear HR h1 HT
    go_enter Tryz.func32, Tryz.ntmps32
    go_wp2
    go_ret
    exact ⟨by rw [HF.out]; rfl, bl_refl w⟩
end Go.Proofs.YtblfobepaipebaaGreatDoor
