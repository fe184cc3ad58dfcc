/- strings.Cut at a point, strings.Trim of digits, strings.ContainsAny of a point, strings.Repeat of a nought: by contracts. -/
import Derived.Test.YtccnfklemalmeaaDoorParsePure
import Derived.Test.YtccnfklemalmeaaDoorShelf
import Derived.Test.YtccnfklemalmeaaDoorPlain
import Derived.Shelf.Strings.SlTrimAscii
import Derived.Deep.QuietTactic
import Derived.BigQuiet
import Derived.IntWalk
import Derived.Lib.Hide
set_option linter.unusedVariables false
set_option linter.unusedSimpArgs false
set_option maxRecDepth 100000
namespace Go.Proofs.YtccnfklemalmeaaDoor
open Go.RowKit Go.Proofs.YtccnfklemalmeaaDoor.Tp Go.Proofs.YtccnfklemalmeaaDoorW.PrintWords

def bs (l : List UInt8) : ByteArray := ⟨l.toArray⟩
theorem bs_list (l : List UInt8) : (bs l).data.toList = l := by simp [bs]
theorem bs_size (l : List UInt8) : (bs l).size = l.length := by simp [bs, ByteArray.size]
theorem bs_of (s : ByteArray) : bs s.data.toList = s := by simp [bs]
theorem bs_append (l r : List UInt8) : bs l ++ bs r = bs (l ++ r) := by
  apply ByteArray.ext
  simp [bs, ByteArray.data_append]
theorem indexByte_cut : ∀ l : List UInt8, (Lib.indexByte l 46 = -1 ∧ cutP l = (l, [])) ∨ (∃ i : Nat, Lib.indexByte l 46 = (i : Int) ∧ i < l.length ∧ cutP l = (l.take i, l.drop (i + 1))) := by
  intro l
  induction l with
  | nil => exact .inl ⟨rfl, rfl⟩
  | cons c r ih =>
    by_cases h : c = 46
    · subst h
      exact .inr ⟨0, by simp [Lib.indexByte], by simp, by simp [cutP]⟩
    · have hb : (c == 46) = false := by simp [h]
      rcases ih with ⟨e1, e2⟩ | ⟨i, e1, e2, e3⟩
      · refine .inl ⟨by simp [Lib.indexByte, hb, e1], ?_⟩
        rw [cutP, if_neg h, e2]
      · refine .inr ⟨i + 1, ?_, by simp only [List.length_cons]; omega, ?_⟩
        · have : ((i : Int) == -1) = false := beq_eq_false_iff_ne.2 (by omega)
          simp [Lib.indexByte, hb, e1, this]
        · rw [cutP, if_neg h, e3]; simp
theorem slCut_any (s : ByteArray) (hs : s.size ≤ 1048576) (w : World) : Calls Tryd.prog 93 #[.string s, .string ⟨#[46]⟩] w fun e w' =>
    ∃ f, e = .returned (.tuple #[.string (bs (cutP s.data.toList).1), .string (bs (cutP s.data.toList).2), .bool f]) ∧ Below w.heap.size w w' := by
  have HI := Lib.hid (fun w => Tryd.stringslite_Index_one s 46 w)
  rcases indexByte_cut s.data.toList with ⟨e1, e2⟩ | ⟨i, e1, e2, e3⟩
  · rw [e1] at HI
    have E2 := Lib.hid e2
    clear e1 e2
    go_enter Tryd.func93, Tryd.ntmps93
    go_wp2_with fail
    refine (HI.out _).mono ?_
    rintro e w' ⟨rfl, rfl⟩
    go_wp2
    go_ret3
    exact ⟨false, by rw [E2.out, bs_of]; rfl, bl_refl _⟩
  · rw [e1] at HI
    have hi : i < s.size := by simpa using e2
    have h1 : s.extract 0 i = bs (cutP s.data.toList).1 := by
      rw [e3]
      apply ByteArray.ext
      apply Array.ext'
      simp [bs, ByteArray.data_extract]
    have h2 : s.extract (i + 1) s.size = bs (cutP s.data.toList).2 := by
      rw [e3]
      apply ByteArray.ext
      apply Array.ext'
      simp [bs, ByteArray.data_extract]
      rw [List.take_of_length_le (by simp)]
    have H1 := Lib.hid h1
    have H2 := Lib.hid h2
    clear e1 e2 e3 h1 h2
    have f1 : (i : Int) + 1 ≤ (s.size : Int) := by omega
    have f2 : IntKind.i64.wrap ((i : Int) + 1) = (i : Int) + 1 := IntWalk.i64_in _ (by omega)
    have f3 : ((i : Int) + 1).toNat = i + 1 := by omega
    go_enter Tryd.func93, Tryd.ntmps93
    go_wp2_with fail
    refine (HI.out _).mono ?_
    rintro e w' ⟨rfl, rfl⟩
    go_wp2_with fail
    go_quiet (fail)
    go_wp2
    go_ret3
    exact ⟨true, by rw [← H1.out, ← H2.out]; rfl, bl_drewN (bl_refl _) _⟩
theorem cut_any (s : ByteArray) (hs : s.size ≤ 1048576) (w : World) : Calls Tryd.prog 74 #[.string s, .string ⟨#[46]⟩] w fun e w' =>
    ∃ f, e = .returned (.tuple #[.string (bs (cutP s.data.toList).1), .string (bs (cutP s.data.toList).2), .bool f]) ∧ Below w.heap.size w w' := by
  have HI := Lib.hid (fun w => slCut_any s hs w)
  go_enter Tryd.func74, Tryd.ntmps74
  go_wp2_with fail
  refine (HI.out _).mono ?_
  rintro e w' ⟨f, rfl, hb⟩
  go_wp2
  go_ret3
  exact ⟨f, rfl, hb⟩
def digs : List UInt8 := [48, 49, 50, 51, 52, 53, 54, 55, 56, 57]
theorem digs_fin : ∀ n : Fin 256, digs.contains (UInt8.ofNat n.val) = isD (UInt8.ofNat n.val) := by decide +kernel
theorem digs_isD (c : UInt8) : digs.contains c = isD c := by
  have := digs_fin ⟨c.toNat, c.toNat_lt⟩
  simpa using this
theorem dw_nil {p : UInt8 → Bool} : ∀ l : List UInt8, l.dropWhile p = [] ↔ ∀ x ∈ l, p x = true
  | [] => by simp
  | c :: r => by
    rw [List.dropWhile_cons]
    cases h : p c with
    | true => simp [h, dw_nil r]
    | false => simp [h]
theorem dw_head {p : UInt8 → Bool} : ∀ (l : List UInt8) {a : UInt8} {t : List UInt8}, l.dropWhile p = a :: t → p a = false
  | [], a, t, h => by cases h
  | c :: r, a, t, h => by
    rw [List.dropWhile_cons] at h
    cases hc : p c with
    | true => rw [hc, if_pos rfl] at h; exact dw_head r h
    | false =>
      rw [hc, if_neg (by decide)] at h
      injection h with h1 _
      rw [← h1]
      exact hc
theorem dw_mem {p : UInt8 → Bool} : ∀ (l : List UInt8) {a : UInt8}, a ∈ l.dropWhile p → a ∈ l
  | [], a, h => by cases h
  | c :: r, a, h => by
    rw [List.dropWhile_cons] at h
    cases hc : p c with
    | true => rw [hc, if_pos rfl] at h; exact List.mem_cons_of_mem _ (dw_mem r h)
    | false => rw [hc, if_neg (by decide)] at h; exact h
theorem trim_all (l : List UInt8) : Lib.trimS l digs = [] ↔ l.all isD = true := by
  unfold Lib.trimS Lib.trimLeftS Lib.trimRightS
  rw [dw_nil, List.all_eq_true]
  constructor
  · intro h c hc
    have h2 : ∀ c, c ∈ l.reverse.dropWhile (digs.contains ·) → digs.contains c = true := fun c hc => h c (List.mem_reverse.2 hc)
    rw [← digs_isD]
    cases hd : l.reverse.dropWhile (digs.contains ·) with
    | nil => exact (dw_nil _).1 hd c (List.mem_reverse.2 hc)
    | cons a t =>
      have h3 := h2 a (by rw [hd]; simp)
      rw [dw_head _ hd] at h3
      cases h3
  · intro h c hc
    rw [digs_isD]
    exact h c (List.mem_reverse.1 (dw_mem _ (List.mem_reverse.1 hc)))
theorem trim_any (s : ByteArray) (hs : s.size ≤ 1048576) (w : World) : Calls Tryd.prog 75 #[.string s, .string ⟨#[48, 49, 50, 51, 52, 53, 54, 55, 56, 57]⟩] w fun e w' => e = .returned (.string (bs (Lib.trimS s.data.toList digs))) ∧ Below w.heap.size w w' :=
  Any.strings_Trim_laid Tryd.lays160 (by kernel_rfl) s ⟨#[48, 49, 50, 51, 52, 53, 54, 55, 56, 57]⟩ w (by omega) (by decide) (by
    intro j b hb
    have : ∀ b ∈ digs, b.toNat < 128 := by decide
    exact this b (List.mem_of_getElem? hb))
theorem indexAny_no : ∀ l : List UInt8, (∀ c ∈ l, c ≠ 46) → Lib.indexAny l [46] = -1 := by
  intro l
  induction l with
  | nil => intro _; rfl
  | cons c r ih =>
    intro h
    have e := ih fun c hc => h c (List.mem_cons_of_mem _ hc)
    have hc : ([46] : List UInt8).contains c = false := by
      have := h c List.mem_cons_self
      simp [this]
    rw [Lib.indexAny, hc, e]
    rfl
theorem noPoint_any (s : ByteArray) (hs : s.size ≤ 1048576) (hd : s.data.toList.all isD = true) (w : World) : Calls Tryd.prog 76 #[.string s, .string ⟨#[46]⟩] w fun e w' => e = .returned (.bool false) ∧ Below w.heap.size w w' := by
  rw [List.all_eq_true] at hd
  have h := Tryd.strings_ContainsAny_laid s ⟨#[46]⟩ w (by omega) (by decide) (fun j b hb => by
    have := of_decide_eq_true (hd b (List.mem_of_getElem? hb))
    omega) (by
    intro j b hb
    have : ∀ b ∈ ([46] : List UInt8), b.toNat < 128 := by decide
    exact this b (List.mem_of_getElem? hb))
  have e : Lib.containsAny s.data.toList (⟨#[46]⟩ : ByteArray).data.toList = false := by
    show decide (0 ≤ Lib.indexAny s.data.toList [46]) = false
    rw [indexAny_no _ fun c hc e => by
      have := of_decide_eq_true (hd c hc)
      subst e
      simp at this]
    rfl
  rw [e] at h
  exact h
end Go.Proofs.YtccnfklemalmeaaDoor
