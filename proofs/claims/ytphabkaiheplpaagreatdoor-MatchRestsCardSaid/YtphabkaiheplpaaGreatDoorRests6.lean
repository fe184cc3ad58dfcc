/- Joined texts of this proof: Has, LuhnW. -/
import Derived.Lib.AppendIntMem
import Derived.Lib.ItoaLen
import Derived.LoopTactic
import Derived.Deep.QuietTactic
import Derived.BigQuiet
import Derived.RegionTactic
import Derived.BigRegion
import Derived.Shelf.Abstract
import Derived.Deep.LoopGhost
import Derived.Lib.Hide
import Derived.Test.YtphabkaiheplpaaGreatDoorRests3
import Derived.Test.YtphabkaiheplpaaGreatDoorRests4
import Derived.Test.YtphabkaiheplpaaGreatDoorRests5
/- codes.has, codes.Bic and the document's own, by contracts. -/
set_option linter.unusedVariables false
set_option linter.unusedSimpArgs false
set_option maxRecDepth 100000
namespace Go.Proofs.YtphabkaiheplpaaGreatDoor
open Go.RowKit Go.Shelf

/-- The table of powers reads as it should. -/
def PowT (w : World) : Prop := Lib.TabIs Tryz.prog w "internal/strconv.uint64pow10" .u64 Lib.pow10Tab
theorem PowT.below {w w1 : World} (h : PowT w) (hb : Below w.heap.size w w1) : PowT w1 := Lib.tabBelow_of_tabIs h w1 hb
theorem itoa_any (n : Int) (h0 : 0 ≤ n) (h1 : n ≤ 9223372036854775807) (w : World) (hp : PowT w) :
    Calls Tryz.prog 116 #[.int .i64 n] w fun e w' => ∃ s : ByteArray, e = .returned (.string s) ∧ s.size ≤ 21 ∧ Below w.heap.size w w' :=
  (Tryz.strconv_Itoa n (by omega) h1 w hp).mono fun e w' ⟨h, k, os, hw⟩ => ⟨_, h, by (show (Lib.itoa n).toArray.size ≤ 21; simpa using Lib.itoa_length_le n (by omega) h1), by rw [hw]; exact Lib.below_grow _ _ (Nat.le_refl _) _ _⟩

theorem not_f {b : Bool} (h : (!b) = false) : b = true := by cases b <;> first | rfl | cases h
theorem not_t {b : Bool} (h : (!b) = true) : b = false := by cases b <;> first | rfl | cases h
def byteAt (s : ByteArray) (i : Nat) : Int := ((s.data.toList.getD i 0).toNat : Int)
theorem byteAt_eq (s : ByteArray) (i : Nat) (h : i < s.size) : ((s[i]'h).toNat : Int) = byteAt s i := by
  unfold byteAt
  rw [List.getD_eq_getElem?_getD, List.getElem?_eq_getElem (by simpa using h)]
  rfl
/-- A form's letters. -/
def Lets (f : ByteArray) : Prop := ∀ i (h : i < f.size), ((f[i]'h).toNat : Int) = 67 ∨ ((f[i]'h).toNat : Int) = 68 ∨ ((f[i]'h).toNat : Int) = 83
theorem Lets.low {f : ByteArray} (h : Lets f) (i : Nat) (hi : i < f.size) : (f[i]'hi).toNat < 128 := by have := h i hi; omega
def hasOK (s f : ByteArray) : Bool := decide (s.size = f.size) && (List.range f.size).all fun i => fitsI (byteAt f i) (byteAt s i)
theorem hasOK_size {s f : ByteArray} (h : s.size ≠ f.size) : hasOK s f = false := by unfold hasOK; simp [h]
theorem hasOK_no {s f : ByteArray} {i : Nat} (hi : i < f.size) (h : fitsI (byteAt f i) (byteAt s i) = false) : hasOK s f = false := by
  unfold hasOK
  rw [Bool.and_eq_false_iff]
  right
  rw [List.all_eq_false]
  exact ⟨i, List.mem_range.2 hi, by simp [h]⟩
theorem hasOK_yes {s f : ByteArray} (hs : s.size = f.size) (h : ∀ i, i < f.size → fitsI (byteAt f i) (byteAt s i) = true) : hasOK s f = true := by
  unfold hasOK
  simp only [hs, decide_true, Bool.true_and]
  rw [List.all_eq_true]
  intro i hi
  exact h i (List.mem_range.1 hi)
/-- What a check answers: no error just if it is right. -/
def Checked (ok : Bool) (w : World) (e : Ending) (w' : World) : Prop := ∃ E : GErr, e = .returned E.val ∧ E.isNil = ok ∧ E.ok ∧ Below w.heap.size w w'
def Pre (s f : ByteArray) (k : Nat) : Prop := ∀ i, i < k → fitsI (byteAt f i) (byteAt s i) = true
theorem Pre.next {s f : ByteArray} {k : Nat} (h : Pre s f k) (hk : fitsI (byteAt f k) (byteAt s k) = true) : Pre s f (k + 1) := by
  intro i hi
  by_cases e : i = k
  · rw [e]; exact hk
  · exact h i (by omega)
set_option maxHeartbeats 400000 in
theorem has_any (s f : ByteArray) (hf : Lets f) (hs : s.size ≤ 140737488351232) (hf1 : f.size ≤ 64) (w : World) (hp : PowT w) :
    Calls Tryz.prog 83 #[.string s, .string f] w (Checked (hasOK s f) w) := by
  have HP := Lib.hid hp
  clear hp
  go_enter Tryz.func83, Tryz.ntmps83
  rcases Nat.lt_trichotomy s.size f.size with h | h | h
  · have hne := hasOK_size (show s.size ≠ f.size by omega)
    have HN := Lib.hid hne
    clear hne
    go_wp2_with (go_at_call 116; refine (itoa_any _ (by omega) (by omega) _ HP.out).mono ?_; rintro e w1 ⟨t, rfl, ht, hb⟩)
    go_ret
    exact ⟨.codes _ 2, rfl, HN.out.symm, .inr (by simp [GErr.num]), hb⟩
  · have HPre : Hid (Pre s f 0) := fun i hi => absurd hi (Nat.not_lt_zero i)
    go_wp2
    go_loopw [4] (fun v w' => v = .nilIface ∧ ∃ k, k ≤ f.size ∧ w' = w.iter f k ∧ Hid (Pre s f k)) (fun _ w' => f.size - w'.iterPos w.heap.size)
    case atStart => exact ⟨rfl, 0, Nat.zero_le _, rfl, HPre⟩
    case round =>
      clear HPre
      obtain ⟨rfl, k, hk, rfl, HK⟩ := hrel
      by_cases hlt : k < f.size
      · have hnx : ∀ ty, (Instr.next (.pointer (some ⟨w.heap.size, 0, none⟩)) true ty).run Tryz.prog (w.iter f k) = _ := fun ty => run_next_ascii w f k ty hlt (hf.low k hlt)
        have hi : k < s.size := by omega
        go_wp2_with (go_at_call 117; refine (is_any _ _ (hf k hlt) _).mono ?_; rintro e w1 ⟨rfl, rfl⟩)
        case roundEnd =>
          have he := not_f ‹(!fitsI _ _) = false›
          rw [byteAt_eq f k hlt, byteAt_eq s k hi] at he
          exact ⟨⟨rfl, k + 1, hlt, rfl, HK.out.next he⟩, by simp; omega⟩
        have he := not_t ‹(!fitsI _ _) = true›
        rw [byteAt_eq f k hlt, byteAt_eq s k hi] at he
        have hno := hasOK_no hlt he
        go_ret
        exact ⟨.fault 6 0 k, rfl, hno.symm, .inr (by simp [GErr.num]), bl_alloc (bl_refl w) _⟩
      · have hnx : ∀ ty, (Instr.next (.pointer (some ⟨w.heap.size, 0, none⟩)) true ty).run Tryz.prog (w.iter f k) = _ := fun ty => run_next_end w f k ty hlt
        go_wp2
        go_ret
        exact ⟨.nil, rfl, (hasOK_yes (by omega) fun i hi => HK.out i (by omega)).symm, .inl rfl, bl_alloc (bl_refl w) _⟩
  · have hne := hasOK_size (show s.size ≠ f.size by omega)
    have HN := Lib.hid hne
    clear hne
    go_wp2_with (go_at_call 116; refine (itoa_any _ (by omega) (by omega) _ HP.out).mono ?_; rintro e w1 ⟨t, rfl, ht, hb⟩)
    go_ret
    exact ⟨.codes _ 3, rfl, HN.out.symm, .inr (by simp [GErr.num]), hb⟩
/-- What the document's check answers: 0 just if it is right. -/
def CheckedI (ok : Bool) (w : World) (e : Ending) (w' : World) : Prop := ∃ n a : Int, e = .returned (.tuple #[.int .i64 n, .int .i64 a]) ∧ (n == 0) = ok ∧ Below w.heap.size w w'
theorem refHas_any (s f : ByteArray) (hf : Lets f) (hs : s.size ≤ 140737488351232) (hf1 : f.size ≤ 64) (w : World) :
    Calls Tryz.prog 154 #[.string s, .string f] w (CheckedI (hasOK s f) w) := by
  go_enter Tryz.func154, Tryz.ntmps154
  rcases Nat.lt_trichotomy s.size f.size with h | h | h
  · have hne := hasOK_size (show s.size ≠ f.size by omega)
    have HN := Lib.hid hne
    clear hne
    go_wp2
    go_ret2
    exact ⟨_, _, rfl, HN.out.symm, bl_refl w⟩
  · have HPre : Hid (Pre s f 0) := fun i hi => absurd hi (Nat.not_lt_zero i)
    go_wp2
    go_loopw [6] (fun i w' => Below w.heap.size w w' ∧ ∃ k : Nat, k ≤ f.size ∧ i = .int .i64 k ∧ Hid (Pre s f k)) (fun i _ => f.size - (intOf i).toNat)
    case atStart => exact ⟨bl_refl w, 0, Nat.zero_le _, rfl, HPre⟩
    case round =>
      clear HPre
      obtain ⟨hb, k, hk, rfl, HK⟩ := hrel
      by_cases hlt : k < f.size
      · have hi : k < s.size := by omega
        go_wp2
        go_quiet ((go_at_call 170; refine Calls.quiet_of_same ((fits_any _ _ (hf k hlt) _).mono fun e w' h => ⟨h.1, h.2.symm⟩)))
        go_wp2
        case roundEnd =>
          have he := not_f ‹(!fitsI _ _) = false›
          rw [byteAt_eq f k hlt, byteAt_eq s k hi] at he
          exact ⟨⟨bl_drewN hb _, k + 1, hlt, rfl, HK.out.next he⟩, by simp [intOf]; omega⟩
        have he := not_t ‹(!fitsI _ _) = true›
        rw [byteAt_eq f k hlt, byteAt_eq s k hi] at he
        have hno := hasOK_no hlt he
        go_ret2
        exact ⟨_, _, rfl, hno.symm, bl_drewN hb _⟩
      · go_wp2
        go_ret2
        exact ⟨_, _, rfl, (hasOK_yes (by omega) fun i hi => HK.out i (by omega)).symm, hb⟩
  · have hne := hasOK_size (show s.size ≠ f.size by omega)
    have HN := Lib.hid hne
    clear hne
    go_wp2
    go_ret2
    exact ⟨_, _, rfl, HN.out.symm, bl_refl w⟩
/-! ### BICs -/
def form8 : ByteArray := ⟨#[67, 67, 67, 67, 67, 67, 83, 83]⟩
def form11 : ByteArray := ⟨#[67, 67, 67, 67, 67, 67, 83, 83, 83, 83, 83]⟩
theorem lets_of {f : ByteArray} (h : ((List.range f.size).all fun i => byteAt f i == 67 || byteAt f i == 68 || byteAt f i == 83) = true) : Lets f := by
  intro i hi
  have := List.all_eq_true.1 h i (List.mem_range.2 hi)
  rw [byteAt_eq f i hi]
  simp only [Bool.or_eq_true, beq_iff_eq] at this
  omega
theorem lets8 : Lets form8 := lets_of (by decide)
theorem lets11 : Lets form11 := lets_of (by decide)
def bicOK (s : ByteArray) : Bool := if s.size = 8 then hasOK s form8 else hasOK s form11
theorem bicOK_size {s : ByteArray} (h : bicOK s = true) : s.size = 8 ∨ s.size = 11 := by
  unfold bicOK at h
  split at h
  · left; assumption
  · right
    unfold hasOK at h
    simp only [Bool.and_eq_true, decide_eq_true_eq] at h
    exact h.1
def branch (s : ByteArray) : ByteArray := if ((s.extract 8 s.size).toList == [88, 88, 88]) = true then ⟨#[]⟩ else s.extract 8 s.size
def bicP (s : ByteArray) : Nat → ByteArray := fun k => if bicOK s then (if k = 0 then s.extract 0 4 else if k = 1 then s.extract 4 6 else if k = 2 then s.extract 6 8 else branch s) else ⟨#[]⟩
def bicV (s : ByteArray) : Value := .agg #[.string (bicP s 0), .string (bicP s 1), .string (bicP s 2), .string (bicP s 3)]
def four (w : World) (g : Nat) (a b c d : Value) : World := (((w.setCell ⟨g, 0, none⟩ a).setCell ⟨g, 1, none⟩ b).setCell ⟨g, 2, none⟩ c).setCell ⟨g, 3, none⟩ d
theorem cell_other {w : World} {g i j : Nat} {v : Value} (h : i ≠ j) : (w.setCell ⟨g, i, none⟩ v).cell? ⟨g, j, none⟩ = w.cell? ⟨g, j, none⟩ := World.cell?_setCell_other _ _ _ _ (fun e => h (by injection e))
theorem four_cells {w : World} {g : Nat} {a b c d a' b' c' d' : Value} (h0 : w.cell? ⟨g, 0, none⟩ = some a) (h1 : w.cell? ⟨g, 1, none⟩ = some b) (h2 : w.cell? ⟨g, 2, none⟩ = some c) (h3 : w.cell? ⟨g, 3, none⟩ = some d) :
    (four w g a' b' c' d').cell? ⟨g, 0, none⟩ = some a' ∧ (four w g a' b' c' d').cell? ⟨g, 1, none⟩ = some b' ∧ (four w g a' b' c' d').cell? ⟨g, 2, none⟩ = some c' ∧ (four w g a' b' c' d').cell? ⟨g, 3, none⟩ = some d' := by
  unfold four
  refine ⟨?_, ?_, ?_, ?_⟩
  · rw [cell_other (by decide), cell_other (by decide), cell_other (by decide), World.cell?_setCell_same _ _ _ h0]
  · rw [cell_other (by decide), cell_other (by decide), World.cell?_setCell_same (u := b) _ _ _ (by rw [cell_other (by decide)]; exact h1)]
  · rw [cell_other (by decide), World.cell?_setCell_same (u := c) _ _ _ (by rw [cell_other (by decide), cell_other (by decide)]; exact h2)]
  · rw [World.cell?_setCell_same (u := d) _ _ _ (by rw [cell_other (by decide), cell_other (by decide), cell_other (by decide)]; exact h3)]
theorem four_below {w W : World} {g : Nat} (h : Below w.heap.size w W) (hg : w.heap.size ≤ g) (a b c d : Value) : Below w.heap.size w (four W g a b c d) := bl_set (bl_set (bl_set (bl_set h hg a) hg b) hg c) hg d
theorem branch8 {s : ByteArray} (h : s.size = 8) : branch s = ByteArray.empty := by
  have e : s.extract 8 s.size = ByteArray.empty := by rw [h]; simp
  unfold branch
  rw [e]
  exact if_neg (by unfold ByteArray.toList; unfold ByteArray.toList.loop; simp)
theorem branchX {s : ByteArray} (h : s.size = 11) (hx : ((s.extract 8 11).toList == [88, 88, 88]) = true) : branch s = ⟨#[]⟩ := by
  unfold branch
  rw [h, if_pos hx]
theorem branchO {s : ByteArray} (h : s.size = 11) (hx : ((s.extract 8 11).toList == [88, 88, 88]) = false) : branch s = s.extract 8 11 := by
  unfold branch
  rw [h, if_neg (by rw [hx]; decide)]
theorem drew_cell {w : World} {a : Addr} {v : Value} (h : w.cell? a = some v) : w.drew.cell? a = some v := h
theorem four_after {w : World} {g : Nat} {a b c d a' b' c' d' : Value} (o : Obj) (h0 : w.cell? ⟨g, 0, none⟩ = some a) (h1 : w.cell? ⟨g, 1, none⟩ = some b) (h2 : w.cell? ⟨g, 2, none⟩ = some c) (h3 : w.cell? ⟨g, 3, none⟩ = some d) :
    ((four w g a' b' c' d').alloc o).drew.cell? ⟨g, 0, none⟩ = some a' ∧ ((four w g a' b' c' d').alloc o).drew.cell? ⟨g, 1, none⟩ = some b' ∧ ((four w g a' b' c' d').alloc o).drew.cell? ⟨g, 2, none⟩ = some c' ∧ ((four w g a' b' c' d').alloc o).drew.cell? ⟨g, 3, none⟩ = some d' := by
  obtain ⟨q0, q1, q2, q3⟩ := four_cells (a' := a') (b' := b') (c' := c') (d' := d') h0 h1 h2 h3
  exact ⟨drew_cell (al_cell q0), drew_cell (al_cell q1), drew_cell (al_cell q2), drew_cell (al_cell q3)⟩
theorem ne_of {E : GErr} {b : Bool} (h : E.isNil = b) (w : World) : (binOp .neq 36 E.val .nilIface).run Tryz.prog w = .ok (.bool (!b)) w := by rw [← h]; exact neq_nil_err E w
theorem bicV_yes {s : ByteArray} (h : bicOK s = true) : bicV s = .agg #[.string (s.extract 0 4), .string (s.extract 4 6), .string (s.extract 6 8), .string (branch s)] := by unfold bicV bicP; rw [h]; rfl
theorem bicV_no {s : ByteArray} (h : bicOK s = false) : bicV s = .agg #[.string ⟨#[]⟩, .string ⟨#[]⟩, .string ⟨#[]⟩, .string ⟨#[]⟩] := by unfold bicV bicP; rw [h]; rfl
def BicR (s : ByteArray) (w : World) (e : Ending) (w' : World) : Prop := ∃ E : GErr, e = .returned (.tuple #[bicV s, E.val]) ∧ E.isNil = bicOK s ∧ E.ok ∧ Below w.heap.size w w'
set_option maxHeartbeats 400000 in
theorem bic_any (s : ByteArray) (hs : s.size ≤ 140737488351232) (w : World) (hp : PowT w) :
    Calls Tryz.prog 60 #[.string s] w (BicR s w) := by
  have HP := Lib.hid hp
  clear hp
  have h8 := fun w hp => has_any s form8 lets8 hs (by decide) w hp
  have h11 := fun w hp => has_any s form11 lets11 hs (by decide) w hp
  by_cases h : s.size = 8
  · have hok : bicOK s = hasOK s form8 := if_pos h
    rw [← hok] at h8
    clear h11 hok
    have H8 := Lib.hid h8
    clear h8
    cases hk : bicOK s
    · have HK := Lib.hid hk
      rw [hk] at H8
      clear hk
      go_enter Tryz.func60, Tryz.ntmps60
      go_wp2_with (go_at_call 83; refine (H8.out _ (HP.out.below (bl_alloc (bl_refl w) _))).mono ?_; rintro e w1 ⟨E, rfl, hE, hEok, hb⟩; have ne := fun w => ne_of hE w; have gn := fun x c w => guard_errN E x c w; have HE := Lib.hid hE; clear hE; have f0 := new_free hb 0; have f1 := new_free hb 1; have f2 := new_free hb 2; have f3 := new_free hb 3; have z := new_size hb; have c0 := bl_cell (a := ⟨w.heap.size, 0, none⟩) (v := .string ⟨#[]⟩) hb (by simp); have c1 := bl_cell (a := ⟨w.heap.size, 1, none⟩) (v := .string ⟨#[]⟩) hb (by simp); have c2 := bl_cell (a := ⟨w.heap.size, 2, none⟩) (v := .string ⟨#[]⟩) hb (by simp); have c3 := bl_cell (a := ⟨w.heap.size, 3, none⟩) (v := .string ⟨#[]⟩) hb (by simp))
      refine bodyPost_ret (v := .tuple #[.agg #[.string ⟨#[]⟩, .string ⟨#[]⟩, .string ⟨#[]⟩, .string ⟨#[]⟩], E.val]) (by have := four_cells (a' := .string ⟨#[]⟩) (b' := .string ⟨#[]⟩) (c' := .string ⟨#[]⟩) (d' := .string ⟨#[]⟩) c0 c1 c2 c3; simp only [four] at this; simp [results, Tryz.results60, go_sem, this.1, this.2.1, this.2.2.1, this.2.2.2]) rfl ⟨E, by rw [bicV_no HK.out], by rw [HE.out, HK.out], hEok, ?_⟩
      exact four_below (bl_then (bl_alloc (bl_refl w) _) hb) (Nat.le_refl _) _ _ _ _
    · have HK := Lib.hid hk
      rw [hk] at H8
      clear hk
      go_enter Tryz.func60, Tryz.ntmps60
      go_wp2_with (go_at_call 83; refine (H8.out _ (HP.out.below (bl_alloc (bl_refl w) _))).mono ?_; rintro e w1 ⟨E, rfl, hE, hEok, hb⟩; have ne := fun w => ne_of hE w; have gn := fun x c w => guard_errN E x c w; have HE := Lib.hid hE; clear hE; have f0 := new_free hb 0; have f1 := new_free hb 1; have f2 := new_free hb 2; have f3 := new_free hb 3; have z := new_size hb; have c0 := bl_cell (a := ⟨w.heap.size, 0, none⟩) (v := .string ⟨#[]⟩) hb (by simp); have c1 := bl_cell (a := ⟨w.heap.size, 1, none⟩) (v := .string ⟨#[]⟩) hb (by simp); have c2 := bl_cell (a := ⟨w.heap.size, 2, none⟩) (v := .string ⟨#[]⟩) hb (by simp); have c3 := bl_cell (a := ⟨w.heap.size, 3, none⟩) (v := .string ⟨#[]⟩) hb (by simp))
      go_region
      go_wp2
      refine bodyPost_ret (v := .tuple #[.agg #[.string (s.extract 0 4), .string (s.extract 4 6), .string (s.extract 6 8), .string ByteArray.empty], .nilIface]) (by have := fun o => four_after (a' := .string (s.extract 0 4)) (b' := .string (s.extract 4 6)) (c' := .string (s.extract 6 8)) (d' := .string ByteArray.empty) o c0 c1 c2 c3; simp only [four] at this; simp [results, Tryz.results60, go_sem, (this _).1, (this _).2.1, (this _).2.2.1, (this _).2.2.2]) rfl ⟨.nil, by rw [bicV_yes HK.out, branch8 h]; rfl, by rw [HK.out]; rfl, .inl rfl, ?_⟩
      exact bl_drew (bl_alloc (four_below (bl_then (bl_alloc (bl_refl w) _) hb) (Nat.le_refl _) _ _ _ _) _)
  · have hok : bicOK s = hasOK s form11 := if_neg h
    rw [← hok] at h11
    clear h8 hok
    have H11 := Lib.hid h11
    clear h11
    have happ : (⟨#[67, 67, 67, 67, 67, 67, 83, 83]⟩ : ByteArray) ++ ⟨#[83, 83, 83]⟩ = form11 := by decide
    cases hk : bicOK s
    · have HK := Lib.hid hk
      rw [hk] at H11
      clear hk
      go_enter Tryz.func60, Tryz.ntmps60
      go_wp2_with (go_at_call 83; refine (H11.out _ (HP.out.below (bl_alloc (bl_refl w) _))).mono ?_; rintro e w1 ⟨E, rfl, hE, hEok, hb⟩; have ne := fun w => ne_of hE w; have gn := fun x c w => guard_errN E x c w; have HE := Lib.hid hE; clear hE; have f0 := new_free hb 0; have f1 := new_free hb 1; have f2 := new_free hb 2; have f3 := new_free hb 3; have z := new_size hb; have c0 := bl_cell (a := ⟨w.heap.size, 0, none⟩) (v := .string ⟨#[]⟩) hb (by simp); have c1 := bl_cell (a := ⟨w.heap.size, 1, none⟩) (v := .string ⟨#[]⟩) hb (by simp); have c2 := bl_cell (a := ⟨w.heap.size, 2, none⟩) (v := .string ⟨#[]⟩) hb (by simp); have c3 := bl_cell (a := ⟨w.heap.size, 3, none⟩) (v := .string ⟨#[]⟩) hb (by simp))
      refine bodyPost_ret (v := .tuple #[.agg #[.string ⟨#[]⟩, .string ⟨#[]⟩, .string ⟨#[]⟩, .string ⟨#[]⟩], E.val]) (by have := four_cells (a' := .string ⟨#[]⟩) (b' := .string ⟨#[]⟩) (c' := .string ⟨#[]⟩) (d' := .string ⟨#[]⟩) c0 c1 c2 c3; simp only [four] at this; simp [results, Tryz.results60, go_sem, this.1, this.2.1, this.2.2.1, this.2.2.2]) rfl ⟨E, by rw [bicV_no HK.out], by rw [HE.out, HK.out], hEok, ?_⟩
      exact four_below (bl_then (bl_alloc (bl_refl w) _) hb) (Nat.le_refl _) _ _ _ _
    · have HK := Lib.hid hk
      rw [hk] at H11
      have h11s : s.size = 11 := (bicOK_size hk).resolve_left h
      clear hk
      go_enter Tryz.func60, Tryz.ntmps60
      go_wp2_with (go_at_call 83; refine (H11.out _ (HP.out.below (bl_alloc (bl_refl w) _))).mono ?_; rintro e w1 ⟨E, rfl, hE, hEok, hb⟩; have ne := fun w => ne_of hE w; have gn := fun x c w => guard_errN E x c w; have HE := Lib.hid hE; clear hE; have f0 := new_free hb 0; have f1 := new_free hb 1; have f2 := new_free hb 2; have f3 := new_free hb 3; have z := new_size hb; have c0 := bl_cell (a := ⟨w.heap.size, 0, none⟩) (v := .string ⟨#[]⟩) hb (by simp); have c1 := bl_cell (a := ⟨w.heap.size, 1, none⟩) (v := .string ⟨#[]⟩) hb (by simp); have c2 := bl_cell (a := ⟨w.heap.size, 2, none⟩) (v := .string ⟨#[]⟩) hb (by simp); have c3 := bl_cell (a := ⟨w.heap.size, 3, none⟩) (v := .string ⟨#[]⟩) hb (by simp))
      go_region
      go_wp2
      · refine bodyPost_ret (v := .tuple #[.agg #[.string (s.extract 0 4), .string (s.extract 4 6), .string (s.extract 6 8), .string ⟨#[]⟩], .nilIface]) (by have := fun o => four_after (a' := .string (s.extract 0 4)) (b' := .string (s.extract 4 6)) (c' := .string (s.extract 6 8)) (d' := .string ⟨#[]⟩) o c0 c1 c2 c3; simp only [four] at this; simp [results, Tryz.results60, go_sem, (this _).1, (this _).2.1, (this _).2.2.1, (this _).2.2.2]) rfl ⟨.nil, by rw [bicV_yes HK.out, branchX h11s ‹_›]; rfl, by rw [HK.out]; rfl, .inl rfl, ?_⟩
        exact bl_drew (bl_alloc (four_below (bl_then (bl_alloc (bl_refl w) _) hb) (Nat.le_refl _) _ _ _ _) _)
      · refine bodyPost_ret (v := .tuple #[.agg #[.string (s.extract 0 4), .string (s.extract 4 6), .string (s.extract 6 8), .string (s.extract 8 11)], .nilIface]) (by have := fun o => four_after (a' := .string (s.extract 0 4)) (b' := .string (s.extract 4 6)) (c' := .string (s.extract 6 8)) (d' := .string (s.extract 8 11)) o c0 c1 c2 c3; simp only [four] at this; simp [results, Tryz.results60, go_sem, (this _).1, (this _).2.1, (this _).2.2.1, (this _).2.2.2]) rfl ⟨.nil, by rw [bicV_yes HK.out, branchO h11s ‹_›]; rfl, by rw [HK.out]; rfl, .inl rfl, ?_⟩
        exact bl_drew (bl_alloc (four_below (bl_then (bl_alloc (bl_refl w) _) hb) (Nat.le_refl _) _ _ _ _) _)
theorem refBic_any (s : ByteArray) (hs : s.size ≤ 140737488351232) (w : World) :
    Calls Tryz.prog 134 #[.string s] w fun e w' => ∃ n a : Int, e = .returned (.tuple #[bicV s, .int .i64 n, .int .i64 a]) ∧ (n == 0) = bicOK s ∧ Below w.heap.size w w' := by
  have h8 := fun w => refHas_any s form8 lets8 hs (by decide) w
  have h11 := fun w => refHas_any s form11 lets11 hs (by decide) w
  by_cases h : s.size = 8
  · have hok : bicOK s = hasOK s form8 := if_pos h
    rw [← hok] at h8
    clear h11 hok
    have H8 := Lib.hid h8
    clear h8
    cases hk : bicOK s
    · have HK := Lib.hid hk
      rw [hk] at H8
      clear hk
      go_enter Tryz.func134, Tryz.ntmps134
      go_wp2_with (go_at_call 154; refine (H8.out _).mono ?_; rintro e w1 ⟨n, a, rfl, hn, hb⟩; have hne : (n != 0) = true := (by simp only [bne, hn, Bool.not_true, Bool.not_false]); have f0 := new_free hb 0; have f1 := new_free hb 1; have f2 := new_free hb 2; have f3 := new_free hb 3; have z := new_size hb; have c0 := bl_cell (a := ⟨w.heap.size, 0, none⟩) (v := .string ⟨#[]⟩) hb (by simp); have c1 := bl_cell (a := ⟨w.heap.size, 1, none⟩) (v := .string ⟨#[]⟩) hb (by simp); have c2 := bl_cell (a := ⟨w.heap.size, 2, none⟩) (v := .string ⟨#[]⟩) hb (by simp); have c3 := bl_cell (a := ⟨w.heap.size, 3, none⟩) (v := .string ⟨#[]⟩) hb (by simp); have HE := Lib.hid hn; clear hn)
      refine bodyPost_ret (v := .tuple #[.agg #[.string ⟨#[]⟩, .string ⟨#[]⟩, .string ⟨#[]⟩, .string ⟨#[]⟩], .int .i64 n, .int .i64 a]) (by have := four_cells (a' := .string ⟨#[]⟩) (b' := .string ⟨#[]⟩) (c' := .string ⟨#[]⟩) (d' := .string ⟨#[]⟩) c0 c1 c2 c3; simp only [four] at this; simp [results, Tryz.results134, go_sem, this.1, this.2.1, this.2.2.1, this.2.2.2]) rfl ⟨n, a, by rw [bicV_no HK.out], HE.out, ?_⟩
      exact four_below (bl_then (bl_alloc (bl_refl w) _) hb) (Nat.le_refl _) _ _ _ _
    · have HK := Lib.hid hk
      rw [hk] at H8
      clear hk
      go_enter Tryz.func134, Tryz.ntmps134
      go_wp2_with (go_at_call 154; refine (H8.out _).mono ?_; rintro e w1 ⟨n, a, rfl, hn, hb⟩; have hne : (n != 0) = false := (by simp only [bne, hn, Bool.not_true, Bool.not_false]); have f0 := new_free hb 0; have f1 := new_free hb 1; have f2 := new_free hb 2; have f3 := new_free hb 3; have z := new_size hb; have c0 := bl_cell (a := ⟨w.heap.size, 0, none⟩) (v := .string ⟨#[]⟩) hb (by simp); have c1 := bl_cell (a := ⟨w.heap.size, 1, none⟩) (v := .string ⟨#[]⟩) hb (by simp); have c2 := bl_cell (a := ⟨w.heap.size, 2, none⟩) (v := .string ⟨#[]⟩) hb (by simp); have c3 := bl_cell (a := ⟨w.heap.size, 3, none⟩) (v := .string ⟨#[]⟩) hb (by simp); have HE := Lib.hid hn; clear hn)
      all_goals go_region
      all_goals go_wp2
      · refine bodyPost_ret (v := .tuple #[.agg #[.string (s.extract 0 4), .string (s.extract 4 6), .string (s.extract 6 8), .string ByteArray.empty], .int .i64 0, .int .i64 0]) (by have := four_cells (a' := .string (s.extract 0 4)) (b' := .string (s.extract 4 6)) (c' := .string (s.extract 6 8)) (d' := .string ByteArray.empty) c0 c1 c2 c3; simp only [four] at this; have := fun (a : Addr) (v : Value) (w : World) (h : w.cell? a = some v) => drew_cell h; simp [results, Tryz.results134, go_sem, drew_cell ‹_ ∧ _ ∧ _ ∧ _›.1, drew_cell ‹_ ∧ _ ∧ _ ∧ _›.2.1, drew_cell ‹_ ∧ _ ∧ _ ∧ _›.2.2.1, drew_cell ‹_ ∧ _ ∧ _ ∧ _›.2.2.2]) rfl ⟨0, 0, by rw [bicV_yes HK.out, branch8 h], rfl, ?_⟩
        exact bl_drew (four_below (bl_then (bl_alloc (bl_refl w) _) hb) (Nat.le_refl _) _ _ _ _)
  · have hok : bicOK s = hasOK s form11 := if_neg h
    rw [← hok] at h11
    clear h8 hok
    have H11 := Lib.hid h11
    clear h11
    cases hk : bicOK s
    · have HK := Lib.hid hk
      rw [hk] at H11
      clear hk
      go_enter Tryz.func134, Tryz.ntmps134
      go_wp2_with (go_at_call 154; refine (H11.out _).mono ?_; rintro e w1 ⟨n, a, rfl, hn, hb⟩; have hne : (n != 0) = true := (by simp only [bne, hn, Bool.not_true, Bool.not_false]); have f0 := new_free hb 0; have f1 := new_free hb 1; have f2 := new_free hb 2; have f3 := new_free hb 3; have z := new_size hb; have c0 := bl_cell (a := ⟨w.heap.size, 0, none⟩) (v := .string ⟨#[]⟩) hb (by simp); have c1 := bl_cell (a := ⟨w.heap.size, 1, none⟩) (v := .string ⟨#[]⟩) hb (by simp); have c2 := bl_cell (a := ⟨w.heap.size, 2, none⟩) (v := .string ⟨#[]⟩) hb (by simp); have c3 := bl_cell (a := ⟨w.heap.size, 3, none⟩) (v := .string ⟨#[]⟩) hb (by simp); have HE := Lib.hid hn; clear hn)
      refine bodyPost_ret (v := .tuple #[.agg #[.string ⟨#[]⟩, .string ⟨#[]⟩, .string ⟨#[]⟩, .string ⟨#[]⟩], .int .i64 n, .int .i64 a]) (by have := four_cells (a' := .string ⟨#[]⟩) (b' := .string ⟨#[]⟩) (c' := .string ⟨#[]⟩) (d' := .string ⟨#[]⟩) c0 c1 c2 c3; simp only [four] at this; simp [results, Tryz.results134, go_sem, this.1, this.2.1, this.2.2.1, this.2.2.2]) rfl ⟨n, a, by rw [bicV_no HK.out], HE.out, ?_⟩
      exact four_below (bl_then (bl_alloc (bl_refl w) _) hb) (Nat.le_refl _) _ _ _ _
    · have HK := Lib.hid hk
      rw [hk] at H11
      have h11s : s.size = 11 := (bicOK_size hk).resolve_left h
      clear hk
      go_enter Tryz.func134, Tryz.ntmps134
      go_wp2_with (go_at_call 154; refine (H11.out _).mono ?_; rintro e w1 ⟨n, a, rfl, hn, hb⟩; have hne : (n != 0) = false := (by simp only [bne, hn, Bool.not_true, Bool.not_false]); have f0 := new_free hb 0; have f1 := new_free hb 1; have f2 := new_free hb 2; have f3 := new_free hb 3; have z := new_size hb; have c0 := bl_cell (a := ⟨w.heap.size, 0, none⟩) (v := .string ⟨#[]⟩) hb (by simp); have c1 := bl_cell (a := ⟨w.heap.size, 1, none⟩) (v := .string ⟨#[]⟩) hb (by simp); have c2 := bl_cell (a := ⟨w.heap.size, 2, none⟩) (v := .string ⟨#[]⟩) hb (by simp); have c3 := bl_cell (a := ⟨w.heap.size, 3, none⟩) (v := .string ⟨#[]⟩) hb (by simp); have HE := Lib.hid hn; clear hn)
      all_goals go_region
      all_goals go_wp2
      · refine bodyPost_ret (v := .tuple #[.agg #[.string (s.extract 0 4), .string (s.extract 4 6), .string (s.extract 6 8), .string ⟨#[]⟩], .int .i64 0, .int .i64 0]) (by have := four_cells (a' := .string (s.extract 0 4)) (b' := .string (s.extract 4 6)) (c' := .string (s.extract 6 8)) (d' := .string ⟨#[]⟩) c0 c1 c2 c3; simp only [four] at this; have := fun (a : Addr) (v : Value) (w : World) (h : w.cell? a = some v) => drew_cell h; simp [results, Tryz.results134, go_sem, drew_cell ‹_ ∧ _ ∧ _ ∧ _›.1, drew_cell ‹_ ∧ _ ∧ _ ∧ _›.2.1, drew_cell ‹_ ∧ _ ∧ _ ∧ _›.2.2.1, drew_cell ‹_ ∧ _ ∧ _ ∧ _›.2.2.2]) rfl ⟨0, 0, by rw [bicV_yes HK.out, branchX h11s ‹_›], rfl, ?_⟩
        exact bl_drew (four_below (bl_then (bl_alloc (bl_refl w) _) hb) (Nat.le_refl _) _ _ _ _)
      · refine bodyPost_ret (v := .tuple #[.agg #[.string (s.extract 0 4), .string (s.extract 4 6), .string (s.extract 6 8), .string (s.extract 8 11)], .int .i64 0, .int .i64 0]) (by have := four_cells (a' := .string (s.extract 0 4)) (b' := .string (s.extract 4 6)) (c' := .string (s.extract 6 8)) (d' := .string (s.extract 8 11)) c0 c1 c2 c3; simp only [four] at this; have := fun (a : Addr) (v : Value) (w : World) (h : w.cell? a = some v) => drew_cell h; simp [results, Tryz.results134, go_sem, drew_cell ‹_ ∧ _ ∧ _ ∧ _›.1, drew_cell ‹_ ∧ _ ∧ _ ∧ _›.2.1, drew_cell ‹_ ∧ _ ∧ _ ∧ _›.2.2.1, drew_cell ‹_ ∧ _ ∧ _ ∧ _›.2.2.2]) rfl ⟨0, 0, by rw [bicV_yes HK.out, branchO h11s ‹_›], rfl, ?_⟩
        exact bl_drew (four_below (bl_then (bl_alloc (bl_refl w) _) hb) (Nat.le_refl _) _ _ _ _)
end Go.Proofs.YtphabkaiheplpaaGreatDoor
/- codes.luhn by its contract: the Luhn sum of a text of signs, modulo 10. -/
set_option linter.unusedVariables false
set_option linter.unusedSimpArgs false
set_option maxRecDepth 100000
namespace Go.Proofs.YtphabkaiheplpaaGreatDoor
open Go.RowKit Go.Shelf

/-- The two sums in cells of the call's own. -/
structure LuI (w W : World) (be bo : Nat) (ev od : Int) : Prop where
  below : Below w.heap.size w W
  lo : w.heap.size ≤ be ∧ w.heap.size ≤ bo ∧ be ≠ bo
  ce : W.cell? ⟨be, 0, none⟩ = some (.int .i64 ev)
  co : W.cell? ⟨bo, 0, none⟩ = some (.int .i64 od)
  fe : W.frozen? ⟨be, 0, none⟩ = false
  fo : W.frozen? ⟨bo, 0, none⟩ = false
theorem LuI.put {w W : World} {be bo : Nat} {ev od : Int} (h : LuI w W be bo ev od) (x y : Int) : LuI w ((W.setCell ⟨be, 0, none⟩ (.int .i64 x)).setCell ⟨bo, 0, none⟩ (.int .i64 y)) be bo x y := by
  obtain ⟨a, b, c⟩ := h.lo
  refine ⟨bl_set (bl_set h.below (by exact a) _) (by exact b) _, h.lo, ?_, ?_, ?_, ?_⟩
  · rw [World.cell?_setCell_other _ _ _ _ (fun e => by injection e; omega)]
    exact World.cell?_setCell_same _ _ _ h.ce
  · exact World.cell?_setCell_same (u := .int .i64 od) _ _ _ (by rw [World.cell?_setCell_other _ _ _ _ (fun e => by injection e; omega)]; exact h.co)
  · rw [World.frozen?_setCell, World.frozen?_setCell]; exact h.fe
  · rw [World.frozen?_setCell, World.frozen?_setCell]; exact h.fo
theorem tw_range {d : Int} (h0 : 0 ≤ d) (h1 : d ≤ 9) : 0 ≤ tw d ∧ tw d ≤ 9 := by
  by_cases e : d ≤ 4
  · rw [tw_small h0 e]; omega
  · rw [tw_great (by omega) h1]; omega

theorem luhnStep (be bo : Nat) (d ev od : Int) (W : World) (hd : 0 ≤ d ∧ d ≤ 9) (he : 0 ≤ ev ∧ ev ≤ 9) (ho : 0 ≤ od ∧ od ≤ 9) (hne : be ≠ bo)
    (ce : W.cell? ⟨be, 0, none⟩ = some (.int .i64 ev)) (co : W.cell? ⟨bo, 0, none⟩ = some (.int .i64 od)) (fe : W.frozen? ⟨be, 0, none⟩ = false) (fo : W.frozen? ⟨bo, 0, none⟩ = false) :
    Calls Tryz.prog 142 #[.int .i64 d, .pointer (some ⟨bo, 0, none⟩), .pointer (some ⟨be, 0, none⟩)] W fun e w' => e = .returned (.tuple #[]) ∧ w' = (W.setCell ⟨be, 0, none⟩ (.int .i64 ((od + d) % 10))).setCell ⟨bo, 0, none⟩ (.int .i64 ((ev + tw d) % 10)) := by
  have co2 : (W.setCell ⟨be, 0, none⟩ (.int .i64 ((od + d) % 10))).cell? ⟨bo, 0, none⟩ = some (.int .i64 od) := (World.cell?_setCell_other _ _ _ _ (fun e => by injection e; omega)).trans co
  obtain ⟨d0, d1⟩ := hd
  obtain ⟨e0, e1⟩ := he
  obtain ⟨o0, o1⟩ := ho
  have q1 : (d * 2).tmod 10 = d * 2 % 10 := Int.tmod_eq_emod_of_nonneg (by omega)
  have q2 : (od + d).tmod 10 = (od + d) % 10 := Int.tmod_eq_emod_of_nonneg (by omega)
  by_cases h : 4 < d
  · have ht : tw d = d * 2 % 10 + 1 := if_pos h
    rw [ht]
    have q3 : (ev + (d * 2 % 10 + 1)).tmod 10 = (ev + (d * 2 % 10 + 1)) % 10 := Int.tmod_eq_emod_of_nonneg (by omega)
    clear hne ht
    go_enter Tryz.func142, Tryz.ntmps142
    go_wp2
    go_end0
    exact ⟨rfl, rfl⟩
  · have ht : tw d = d * 2 % 10 := if_neg h
    rw [ht]
    have q3 : (ev + d * 2 % 10).tmod 10 = (ev + d * 2 % 10) % 10 := Int.tmod_eq_emod_of_nonneg (by omega)
    clear hne ht
    go_enter Tryz.func142, Tryz.ntmps142
    go_wp2
    go_end0
    exact ⟨rfl, rfl⟩

/-- A digit or a capital. -/
def SignI (c : Int) : Prop := (48 ≤ c ∧ c ≤ 57) ∨ (65 ≤ c ∧ c ≤ 90)
/-- The digits of the first k signs. -/
def spreadS (s : ByteArray) (k : Nat) : List Int := (List.range k).flatMap fun i => spread1 (byteAt s i)
theorem spreadS_next (s : ByteArray) (k : Nat) : spreadS s (k + 1) = spreadS s k ++ spread1 (byteAt s k) := by simp [spreadS, List.range_succ]
theorem Evo.range {ds : List Int} {ev od : Int} (h : Evo ds ev od) : 0 ≤ ev ∧ ev ≤ 9 ∧ 0 ≤ od ∧ od ≤ 9 := by
  obtain ⟨rfl, rfl⟩ := h
  omega
theorem Evo.digit {s : ByteArray} {k : Nat} {ev od : Int} (h : Evo (spreadS s k) ev od) (h1 : 48 ≤ byteAt s k) (h2 : byteAt s k ≤ 57) : Evo (spreadS s (k + 1)) ((od + (byteAt s k - 48)) % 10) ((ev + tw (byteAt s k - 48)) % 10) := by
  have e : spread1 (byteAt s k) = [byteAt s k - 48] := if_pos ⟨h1, h2⟩
  rw [spreadS_next, e]
  exact h.step
theorem Evo.capital {s : ByteArray} {k : Nat} {ev od : Int} (h : Evo (spreadS s k) ev od) (h1 : 65 ≤ byteAt s k) : Evo (spreadS s (k + 1)) (((ev + tw ((byteAt s k - 65) / 10 + 1)) % 10 + (byteAt s k - 65) % 10) % 10) (((od + ((byteAt s k - 65) / 10 + 1)) % 10 + tw ((byteAt s k - 65) % 10)) % 10) := by
  have e : spread1 (byteAt s k) = [(byteAt s k - 65) / 10 + 1] ++ [(byteAt s k - 65) % 10] := if_neg (by omega)
  rw [spreadS_next, e, ← List.append_assoc]
  exact (h.step).step
theorem LuI.step {w W : World} {be bo : Nat} {ev od : Int} (h : LuI w W be bo ev od) (d : Int) (hd : 0 ≤ d ∧ d ≤ 9) (he : 0 ≤ ev ∧ ev ≤ 9) (ho : 0 ≤ od ∧ od ≤ 9) :
    Calls Tryz.prog 142 #[.int .i64 d, .pointer (some ⟨bo, 0, none⟩), .pointer (some ⟨be, 0, none⟩)] W fun e w' => e = .returned (.tuple #[]) ∧ LuI w w' be bo ((od + d) % 10) ((ev + tw d) % 10) :=
  (luhnStep be bo d ev od W hd he ho h.lo.2.2 h.ce h.co h.fe h.fo).mono fun e w' ⟨a, b⟩ => ⟨a, by rw [b]; exact h.put _ _⟩

theorem enters_luhn (args : Array Value) (w : World) : (callFunc 142 args).run Tryz.prog w = .ok (.enter 142 args) w :=
  enters_of Tryz.func142 (by kernel_rfl) rfl args w
theorem each_luhn (s : ByteArray) (be bo : Nat) (w W : World) (h : LuI w W be bo 0 0) (hs : s.size ≤ 140737488351232) (hsg : ∀ i, i < s.size → SignI (byteAt s i)) :
    Calls Tryz.prog 141 #[.string s, .func (.func 142) #[] #[.pointer (some ⟨bo, 0, none⟩), .pointer (some ⟨be, 0, none⟩)]] W fun e w' => e = .returned (.tuple #[]) ∧ ∃ ev od, LuI w w' be bo ev od ∧ Evo (spreadS s s.size) ev od := by
  have I0 := Lib.hid h
  have E0 : Hid (Evo (spreadS s 0) 0 0) := Evo.start
  have HS := Lib.hid hsg
  clear h hsg
  go_enter Tryz.func141, Tryz.ntmps141
  go_wp2
  go_loopg [7] s.size (fun g vi wr => ∃ (k : Nat) (ev od : Int), vi = .int .i64 k ∧ k ≤ s.size ∧ s.size - k ≤ g ∧ Hid (LuI w wr be bo ev od) ∧ Hid (Evo (spreadS s k) ev od))
  case atStart => exact ⟨0, 0, 0, rfl, by omega, by omega, I0, E0⟩
  case round =>
    clear I0 E0
    obtain ⟨k, ev, od, rfl, hk, hg, I, E⟩ := hrel
    by_cases hlt : k < s.size
    · have hltz : (k : Int) < (s.size : Int) := by omega
      have hbx := byteAt_eq s k hlt
      have sg := HS.out k hlt
      have ED := Lib.hid (Evo.digit E.out)
      have EC := Lib.hid (Evo.capital E.out)
      obtain ⟨r1, r2, r3, r4⟩ := E.out.range
      obtain ⟨c, hc⟩ : ∃ c, c = byteAt s k := ⟨_, rfl⟩
      rw [← hc] at hbx sg ED EC
      clear hc
      by_cases hle : c ≤ 57
      · have c0 : 48 ≤ c := by unfold SignI at sg; omega
        have wc : IntKind.u8.wrap (c - 48) = c - 48 := by rw [IntKind.wrap_u8]; omega
        have ST := Lib.hid (I.out.step (c - 48) (by omega) ⟨r1, r2⟩ ⟨r3, r4⟩)
        have E2 := Lib.hid (ED.out c0 hle)
        clear ED EC sg r1 r2 r3 r4
        go_wp2_with (first | (go_at_call 142; with_reducible refine (ST.out).mono ?_; rintro e w1 ⟨rfl, hI⟩; have I2 := Lib.hid hI; clear hI))
        go_roundg (s.size - (k + 1))
        case measure => omega
        case rel => exact ⟨k + 1, _, _, by go_num, by omega, by omega, I2, E2⟩
      · have c0 : 65 ≤ c ∧ c ≤ 90 := by unfold SignI at sg; omega
        have wc : IntKind.u8.wrap (c - 65) = c - 65 := by rw [IntKind.wrap_u8]; omega
        have q1 : (c - 65).tdiv 10 = (c - 65) / 10 := Int.tdiv_eq_ediv_of_nonneg (by omega)
        have q2 : (c - 65).tmod 10 = (c - 65) % 10 := Int.tmod_eq_emod_of_nonneg (by omega)
        have t1 := tw_range (d := (c - 65) / 10 + 1) (by omega) (by omega)
        have ST := Lib.hid (I.out.step ((c - 65) / 10 + 1) (by omega) ⟨r1, r2⟩ ⟨r3, r4⟩)
        have E2 := Lib.hid (EC.out c0.1)
        clear ED EC sg
        go_wp2_with (first | (go_at_call 142; first | (with_reducible refine (ST.out).mono ?_; rintro e w1 ⟨rfl, hI⟩; have ST2 := Lib.hid (LuI.step hI ((c - 65) % 10) (by omega) (by omega) (by omega)); clear hI) | (with_reducible refine (ST2.out).mono ?_; rintro e w2 ⟨rfl, hI⟩; have I2 := Lib.hid hI; clear hI)))
        go_roundg (s.size - (k + 1))
        case measure => omega
        case rel => exact ⟨k + 1, _, _, by go_num, by omega, by omega, I2, E2⟩
    · have e : s.size = k := by omega
      have hltz : ¬ (k : Int) < (s.size : Int) := by omega
      go_wp2
      go_end0
      exact ⟨rfl, ev, od, I.out, E.out⟩
theorem LuI.new (w : World) (t : TypeId) : LuI w ((w.alloc (.cells #[.int .i64 0] t)).alloc (.cells #[.int .i64 0] t)) w.heap.size (w.heap.size + 1) 0 0 := by
  have z : (w.alloc (.cells #[.int .i64 0] t)).heap.size = w.heap.size + 1 := by simp
  refine ⟨bl_alloc (bl_alloc (bl_refl w) _) _, ⟨Nat.le_refl _, by omega, by omega⟩, ?_, ?_, ?_, ?_⟩
  · rw [World.cell?_alloc_lt _ _ _ (by rw [z]; show w.heap.size < w.heap.size + 1; omega)]
    simp
  · rw [← z, World.cell?_alloc_new]
    rfl
  · rw [World.frozen?_alloc_old _ _ _ (by rw [z]; show w.heap.size ≠ w.heap.size + 1; omega), World.frozen?_alloc_new]
  · rw [← z, World.frozen?_alloc_new]
theorem luhn_any (s : ByteArray) (hs : s.size ≤ 140737488351232) (hsg : ∀ i, i < s.size → SignI (byteAt s i)) (w : World) :
    Calls Tryz.prog 120 #[.string s] w fun e w' => e = .returned (.int .i64 (luhn1 (spreadS s s.size) % 10)) ∧ Below w.heap.size w w' := by
  have EL := Lib.hid (each_luhn s w.heap.size (w.heap.size + 1) w _ (LuI.new w 3) hs hsg)
  clear hsg
  go_enter Tryz.func120, Tryz.ntmps120
  go_wp2_with (first | (go_at_call 141; with_reducible refine (EL.out).mono ?_; rintro e w1 ⟨rfl, ev, od, hI, hE⟩; have I := Lib.hid hI; have E := Lib.hid hE; have ce := I.out.ce; clear hI hE))
  go_ret
  exact ⟨by rw [← E.out.1]; rfl, I.out.below⟩
end Go.Proofs.YtphabkaiheplpaaGreatDoor
