/- codes.has, codes.Bic and the document's own, by contracts. -/
import Derived.Test.YtblfobepaipebaaGreatDoorCodes
import Derived.Test.YtblfobepaipebaaGreatDoorShelf
import Derived.Lib.AppendIntMem
import Derived.Lib.ItoaLen
import Derived.LoopTactic
import Derived.Deep.QuietTactic
import Derived.BigQuiet
import Derived.RegionTactic
import Derived.BigRegion
set_option linter.unusedVariables false
set_option linter.unusedSimpArgs false
set_option maxRecDepth 100000
namespace Go.Proofs.YtblfobepaipebaaGreatDoor
open Go.RowKit Go.Shelf

/-- The table of powers reads as it should. -/
def PowT (w : World) : Prop := Lib.TabIs Tryz.prog w "internal/strconv.uint64pow10" .u64 Lib.pow10Tab
theorem PowT.below {w w1 : World} (h : PowT w) (hb : Below w.heap.size w w1) : PowT w1 := Lib.tabBelow_of_tabIs h w1 hb
theorem itoa_any (n : Int) (h0 : 0 ≤ n) (h1 : n ≤ 9223372036854775807) (w : World) (hp : PowT w) :
    Calls Tryz.prog 212 #[.int .i64 n] w fun e w' => ∃ s : ByteArray, e = .returned (.string s) ∧ s.size ≤ 21 ∧ Below w.heap.size w w' :=
  (Tryz.strconv_Itoa n (by omega) h1 w hp).mono fun e w' ⟨h, k, os, hw⟩ => ⟨_, h, by (show (Lib.itoa n).toArray.size ≤ 21; simpa using Lib.itoa_length_le n (by omega) h1), by rw [hw]; exact Lib.below_grow _ _ (Nat.le_refl _) _ _⟩

theorem not_f {b : Bool} (h : (!b) = false) : b = true := by cases b <;> first | rfl | cases h
theorem not_t {b : Bool} (h : (!b) = true) : b = false := by cases b <;> first | rfl | cases h
def byteAt (s : ByteArray) (i : Nat) : Int := ((s.data.toList.getD i 0).toNat : Int)
theorem byteAt_eq (s : ByteArray) (i : Nat) (h : i < s.size) : ((s[i]'h).toNat : Int) = byteAt s i := by
  unfold byteAt
  rw [List.getD_eq_getElem?_getD, List.getElem?_eq_getElem (by simpa using h)]
  rfl
/-- A form's letters. -/
def Lets (f : ByteArray) : Prop := ∀ i (h : i < f.size), ((f[i]'h).toNat : Int) = 67 ∨ ((f[i]'h).toNat : Int) = 68 ∨ ((f[i]'h).toNat : Int) = 83
theorem Lets.low {f : ByteArray} (h : Lets f) (i : Nat) (hi : i < f.size) : (f[i]'hi).toNat < 128 := by have := h i hi; omega
def hasOK (s f : ByteArray) : Bool := decide (s.size = f.size) && (List.range f.size).all fun i => fitsI (byteAt f i) (byteAt s i)
theorem hasOK_size {s f : ByteArray} (h : s.size ≠ f.size) : hasOK s f = false := by unfold hasOK; simp [h]
theorem hasOK_no {s f : ByteArray} {i : Nat} (hi : i < f.size) (h : fitsI (byteAt f i) (byteAt s i) = false) : hasOK s f = false := by
  unfold hasOK
  rw [Bool.and_eq_false_iff]
  right
  rw [List.all_eq_false]
  exact ⟨i, List.mem_range.2 hi, by simp [h]⟩
theorem hasOK_yes {s f : ByteArray} (hs : s.size = f.size) (h : ∀ i, i < f.size → fitsI (byteAt f i) (byteAt s i) = true) : hasOK s f = true := by
  unfold hasOK
  simp only [hs, decide_true, Bool.true_and]
  rw [List.all_eq_true]
  intro i hi
  exact h i (List.mem_range.1 hi)
/-- What a check answers: no error just if it is right. -/
def Checked (ok : Bool) (w : World) (e : Ending) (w' : World) : Prop := ∃ E : GErr, e = .returned E.val ∧ E.isNil = ok ∧ E.ok ∧ Below w.heap.size w w'
def Pre (s f : ByteArray) (k : Nat) : Prop := ∀ i, i < k → fitsI (byteAt f i) (byteAt s i) = true
theorem Pre.next {s f : ByteArray} {k : Nat} (h : Pre s f k) (hk : fitsI (byteAt f k) (byteAt s k) = true) : Pre s f (k + 1) := by
  intro i hi
  by_cases e : i = k
  · rw [e]; exact hk
  · exact h i (by omega)
set_option maxHeartbeats 400000 in
theorem has_any (s f : ByteArray) (hf : Lets f) (hs : s.size ≤ 140737488351232) (hf1 : f.size ≤ 64) (w : World) (hp : PowT w) :
    Calls Tryz.prog 159 #[.string s, .string f] w (Checked (hasOK s f) w) := by
  have HP := Lib.hid hp
  clear hp
  go_enter Tryz.func159, Tryz.ntmps159
  rcases Nat.lt_trichotomy s.size f.size with h | h | h
  · have hne := hasOK_size (show s.size ≠ f.size by omega)
    have HN := Lib.hid hne
    clear hne
    go_wp2_with (go_at_call 212; refine (itoa_any _ (by omega) (by omega) _ HP.out).mono ?_; rintro e w1 ⟨t, rfl, ht, hb⟩)
    go_ret
    exact ⟨.codes _ 2, rfl, HN.out.symm, .inr (by simp [GErr.num]), hb⟩
  · have HPre : Hid (Pre s f 0) := fun i hi => absurd hi (Nat.not_lt_zero i)
    go_wp2
    go_loopw [4] (fun v w' => v = .nilIface ∧ ∃ k, k ≤ f.size ∧ w' = w.iter f k ∧ Hid (Pre s f k)) (fun _ w' => f.size - w'.iterPos w.heap.size)
    case atStart => exact ⟨rfl, 0, Nat.zero_le _, rfl, HPre⟩
    case round =>
      clear HPre
      obtain ⟨rfl, k, hk, rfl, HK⟩ := hrel
      by_cases hlt : k < f.size
      · have hnx : ∀ ty, (Instr.next (.pointer (some ⟨w.heap.size, 0, none⟩)) true ty).run Tryz.prog (w.iter f k) = _ := fun ty => run_next_ascii w f k ty hlt (hf.low k hlt)
        have hi : k < s.size := by omega
        go_wp2_with (go_at_call 213; refine (is_any _ _ (hf k hlt) _).mono ?_; rintro e w1 ⟨rfl, rfl⟩)
        case roundEnd =>
          have he := not_f ‹(!fitsI _ _) = false›
          rw [byteAt_eq f k hlt, byteAt_eq s k hi] at he
          exact ⟨⟨rfl, k + 1, hlt, rfl, HK.out.next he⟩, by simp; omega⟩
        have he := not_t ‹(!fitsI _ _) = true›
        rw [byteAt_eq f k hlt, byteAt_eq s k hi] at he
        have hno := hasOK_no hlt he
        go_ret
        exact ⟨.fault 6 0 k, rfl, hno.symm, .inr (by simp [GErr.num]), bl_alloc (bl_refl w) _⟩
      · have hnx : ∀ ty, (Instr.next (.pointer (some ⟨w.heap.size, 0, none⟩)) true ty).run Tryz.prog (w.iter f k) = _ := fun ty => run_next_end w f k ty hlt
        go_wp2
        go_ret
        exact ⟨.nil, rfl, (hasOK_yes (by omega) fun i hi => HK.out i (by omega)).symm, .inl rfl, bl_alloc (bl_refl w) _⟩
  · have hne := hasOK_size (show s.size ≠ f.size by omega)
    have HN := Lib.hid hne
    clear hne
    go_wp2_with (go_at_call 212; refine (itoa_any _ (by omega) (by omega) _ HP.out).mono ?_; rintro e w1 ⟨t, rfl, ht, hb⟩)
    go_ret
    exact ⟨.codes _ 3, rfl, HN.out.symm, .inr (by simp [GErr.num]), hb⟩
/-- What the document's check answers: 0 just if it is right. -/
def CheckedI (ok : Bool) (w : World) (e : Ending) (w' : World) : Prop := ∃ n a : Int, e = .returned (.tuple #[.int .i64 n, .int .i64 a]) ∧ (n == 0) = ok ∧ Below w.heap.size w w'
theorem refHas_any (s f : ByteArray) (hf : Lets f) (hs : s.size ≤ 140737488351232) (hf1 : f.size ≤ 64) (w : World) :
    Calls Tryz.prog 170 #[.string s, .string f] w (CheckedI (hasOK s f) w) := by
  go_enter Tryz.func170, Tryz.ntmps170
  rcases Nat.lt_trichotomy s.size f.size with h | h | h
  · have hne := hasOK_size (show s.size ≠ f.size by omega)
    have HN := Lib.hid hne
    clear hne
    go_wp2
    go_ret2
    exact ⟨_, _, rfl, HN.out.symm, bl_refl w⟩
  · have HPre : Hid (Pre s f 0) := fun i hi => absurd hi (Nat.not_lt_zero i)
    go_wp2
    go_loopw [6] (fun i w' => Below w.heap.size w w' ∧ ∃ k : Nat, k ≤ f.size ∧ i = .int .i64 k ∧ Hid (Pre s f k)) (fun i _ => f.size - (intOf i).toNat)
    case atStart => exact ⟨bl_refl w, 0, Nat.zero_le _, rfl, HPre⟩
    case round =>
      clear HPre
      obtain ⟨hb, k, hk, rfl, HK⟩ := hrel
      by_cases hlt : k < f.size
      · have hi : k < s.size := by omega
        go_wp2
        go_quiet ((go_at_call 226; refine Calls.quiet_of_same ((fits_any _ _ (hf k hlt) _).mono fun e w' h => ⟨h.1, h.2.symm⟩)))
        go_wp2
        case roundEnd =>
          have he := not_f ‹(!fitsI _ _) = false›
          rw [byteAt_eq f k hlt, byteAt_eq s k hi] at he
          exact ⟨⟨bl_drewN hb _, k + 1, hlt, rfl, HK.out.next he⟩, by simp [intOf]; omega⟩
        have he := not_t ‹(!fitsI _ _) = true›
        rw [byteAt_eq f k hlt, byteAt_eq s k hi] at he
        have hno := hasOK_no hlt he
        go_ret2
        exact ⟨_, _, rfl, hno.symm, bl_drewN hb _⟩
      · go_wp2
        go_ret2
        exact ⟨_, _, rfl, (hasOK_yes (by omega) fun i hi => HK.out i (by omega)).symm, hb⟩
  · have hne := hasOK_size (show s.size ≠ f.size by omega)
    have HN := Lib.hid hne
    clear hne
    go_wp2
    go_ret2
    exact ⟨_, _, rfl, HN.out.symm, bl_refl w⟩
/-! ### BICs -/
def form8 : ByteArray := ⟨#[67, 67, 67, 67, 67, 67, 83, 83]⟩
def form11 : ByteArray := ⟨#[67, 67, 67, 67, 67, 67, 83, 83, 83, 83, 83]⟩
theorem lets_of {f : ByteArray} (h : ((List.range f.size).all fun i => byteAt f i == 67 || byteAt f i == 68 || byteAt f i == 83) = true) : Lets f := by
  intro i hi
  have := List.all_eq_true.1 h i (List.mem_range.2 hi)
  rw [byteAt_eq f i hi]
  simp only [Bool.or_eq_true, beq_iff_eq] at this
  omega
theorem lets8 : Lets form8 := lets_of (by decide)
theorem lets11 : Lets form11 := lets_of (by decide)
def bicOK (s : ByteArray) : Bool := if s.size = 8 then hasOK s form8 else hasOK s form11
theorem bicOK_size {s : ByteArray} (h : bicOK s = true) : s.size = 8 ∨ s.size = 11 := by
  unfold bicOK at h
  split at h
  · left; assumption
  · right
    unfold hasOK at h
    simp only [Bool.and_eq_true, decide_eq_true_eq] at h
    exact h.1
def branch (s : ByteArray) : ByteArray := if ((s.extract 8 s.size).toList == [88, 88, 88]) = true then ⟨#[]⟩ else s.extract 8 s.size
def bicP (s : ByteArray) : Nat → ByteArray := fun k => if bicOK s then (if k = 0 then s.extract 0 4 else if k = 1 then s.extract 4 6 else if k = 2 then s.extract 6 8 else branch s) else ⟨#[]⟩
def bicV (s : ByteArray) : Value := .agg #[.string (bicP s 0), .string (bicP s 1), .string (bicP s 2), .string (bicP s 3)]
def four (w : World) (g : Nat) (a b c d : Value) : World := (((w.setCell ⟨g, 0, none⟩ a).setCell ⟨g, 1, none⟩ b).setCell ⟨g, 2, none⟩ c).setCell ⟨g, 3, none⟩ d
theorem cell_other {w : World} {g i j : Nat} {v : Value} (h : i ≠ j) : (w.setCell ⟨g, i, none⟩ v).cell? ⟨g, j, none⟩ = w.cell? ⟨g, j, none⟩ := World.cell?_setCell_other _ _ _ _ (fun e => h (by injection e))
theorem four_cells {w : World} {g : Nat} {a b c d a' b' c' d' : Value} (h0 : w.cell? ⟨g, 0, none⟩ = some a) (h1 : w.cell? ⟨g, 1, none⟩ = some b) (h2 : w.cell? ⟨g, 2, none⟩ = some c) (h3 : w.cell? ⟨g, 3, none⟩ = some d) :
    (four w g a' b' c' d').cell? ⟨g, 0, none⟩ = some a' ∧ (four w g a' b' c' d').cell? ⟨g, 1, none⟩ = some b' ∧ (four w g a' b' c' d').cell? ⟨g, 2, none⟩ = some c' ∧ (four w g a' b' c' d').cell? ⟨g, 3, none⟩ = some d' := by
  unfold four
  refine ⟨?_, ?_, ?_, ?_⟩
  · rw [cell_other (by decide), cell_other (by decide), cell_other (by decide), World.cell?_setCell_same _ _ _ h0]
  · rw [cell_other (by decide), cell_other (by decide), World.cell?_setCell_same (u := b) _ _ _ (by rw [cell_other (by decide)]; exact h1)]
  · rw [cell_other (by decide), World.cell?_setCell_same (u := c) _ _ _ (by rw [cell_other (by decide), cell_other (by decide)]; exact h2)]
  · rw [World.cell?_setCell_same (u := d) _ _ _ (by rw [cell_other (by decide), cell_other (by decide), cell_other (by decide)]; exact h3)]
theorem four_below {w W : World} {g : Nat} (h : Below w.heap.size w W) (hg : w.heap.size ≤ g) (a b c d : Value) : Below w.heap.size w (four W g a b c d) := bl_set (bl_set (bl_set (bl_set h hg a) hg b) hg c) hg d
theorem branch8 {s : ByteArray} (h : s.size = 8) : branch s = ByteArray.empty := by
  have e : s.extract 8 s.size = ByteArray.empty := by rw [h]; simp
  unfold branch
  rw [e]
  exact if_neg (by unfold ByteArray.toList; unfold ByteArray.toList.loop; simp)
theorem branchX {s : ByteArray} (h : s.size = 11) (hx : ((s.extract 8 11).toList == [88, 88, 88]) = true) : branch s = ⟨#[]⟩ := by
  unfold branch
  rw [h, if_pos hx]
theorem branchO {s : ByteArray} (h : s.size = 11) (hx : ((s.extract 8 11).toList == [88, 88, 88]) = false) : branch s = s.extract 8 11 := by
  unfold branch
  rw [h, if_neg (by rw [hx]; decide)]
theorem drew_cell {w : World} {a : Addr} {v : Value} (h : w.cell? a = some v) : w.drew.cell? a = some v := h
theorem four_after {w : World} {g : Nat} {a b c d a' b' c' d' : Value} (o : Obj) (h0 : w.cell? ⟨g, 0, none⟩ = some a) (h1 : w.cell? ⟨g, 1, none⟩ = some b) (h2 : w.cell? ⟨g, 2, none⟩ = some c) (h3 : w.cell? ⟨g, 3, none⟩ = some d) :
    ((four w g a' b' c' d').alloc o).drew.cell? ⟨g, 0, none⟩ = some a' ∧ ((four w g a' b' c' d').alloc o).drew.cell? ⟨g, 1, none⟩ = some b' ∧ ((four w g a' b' c' d').alloc o).drew.cell? ⟨g, 2, none⟩ = some c' ∧ ((four w g a' b' c' d').alloc o).drew.cell? ⟨g, 3, none⟩ = some d' := by
  obtain ⟨q0, q1, q2, q3⟩ := four_cells (a' := a') (b' := b') (c' := c') (d' := d') h0 h1 h2 h3
  exact ⟨drew_cell (al_cell q0), drew_cell (al_cell q1), drew_cell (al_cell q2), drew_cell (al_cell q3)⟩
theorem ne_of {E : GErr} {b : Bool} (h : E.isNil = b) (w : World) : (binOp .neq 30 E.val .nilIface).run Tryz.prog w = .ok (.bool (!b)) w := by rw [← h]; exact neq_nil_err E w
theorem bicV_yes {s : ByteArray} (h : bicOK s = true) : bicV s = .agg #[.string (s.extract 0 4), .string (s.extract 4 6), .string (s.extract 6 8), .string (branch s)] := by unfold bicV bicP; rw [h]; rfl
theorem bicV_no {s : ByteArray} (h : bicOK s = false) : bicV s = .agg #[.string ⟨#[]⟩, .string ⟨#[]⟩, .string ⟨#[]⟩, .string ⟨#[]⟩] := by unfold bicV bicP; rw [h]; rfl
def BicR (s : ByteArray) (w : World) (e : Ending) (w' : World) : Prop := ∃ E : GErr, e = .returned (.tuple #[bicV s, E.val]) ∧ E.isNil = bicOK s ∧ E.ok ∧ Below w.heap.size w w'
set_option maxHeartbeats 400000 in
theorem bic_any (s : ByteArray) (hs : s.size ≤ 140737488351232) (w : World) (hp : PowT w) :
    Calls Tryz.prog 78 #[.string s] w (BicR s w) := by
  have HP := Lib.hid hp
  clear hp
  have h8 := fun w hp => has_any s form8 lets8 hs (by decide) w hp
  have h11 := fun w hp => has_any s form11 lets11 hs (by decide) w hp
  by_cases h : s.size = 8
  · have hok : bicOK s = hasOK s form8 := if_pos h
    rw [← hok] at h8
    clear h11 hok
    have H8 := Lib.hid h8
    clear h8
    cases hk : bicOK s
    · have HK := Lib.hid hk
      rw [hk] at H8
      clear hk
      go_enter Tryz.func78, Tryz.ntmps78
      go_wp2_with (go_at_call 159; refine (H8.out _ (HP.out.below (bl_alloc (bl_refl w) _))).mono ?_; rintro e w1 ⟨E, rfl, hE, hEok, hb⟩; have ne := fun w => ne_of hE w; have gn := fun x c w => guard_errN E x c w; have HE := Lib.hid hE; clear hE; have f0 := new_free hb 0; have f1 := new_free hb 1; have f2 := new_free hb 2; have f3 := new_free hb 3; have z := new_size hb; have c0 := bl_cell (a := ⟨w.heap.size, 0, none⟩) (v := .string ⟨#[]⟩) hb (by simp); have c1 := bl_cell (a := ⟨w.heap.size, 1, none⟩) (v := .string ⟨#[]⟩) hb (by simp); have c2 := bl_cell (a := ⟨w.heap.size, 2, none⟩) (v := .string ⟨#[]⟩) hb (by simp); have c3 := bl_cell (a := ⟨w.heap.size, 3, none⟩) (v := .string ⟨#[]⟩) hb (by simp))
      refine bodyPost_ret (v := .tuple #[.agg #[.string ⟨#[]⟩, .string ⟨#[]⟩, .string ⟨#[]⟩, .string ⟨#[]⟩], E.val]) (by have := four_cells (a' := .string ⟨#[]⟩) (b' := .string ⟨#[]⟩) (c' := .string ⟨#[]⟩) (d' := .string ⟨#[]⟩) c0 c1 c2 c3; simp only [four] at this; simp [results, Tryz.results78, go_sem, this.1, this.2.1, this.2.2.1, this.2.2.2]) rfl ⟨E, by rw [bicV_no HK.out], by rw [HE.out, HK.out], hEok, ?_⟩
      exact four_below (bl_then (bl_alloc (bl_refl w) _) hb) (Nat.le_refl _) _ _ _ _
    · have HK := Lib.hid hk
      rw [hk] at H8
      clear hk
      go_enter Tryz.func78, Tryz.ntmps78
      go_wp2_with (go_at_call 159; refine (H8.out _ (HP.out.below (bl_alloc (bl_refl w) _))).mono ?_; rintro e w1 ⟨E, rfl, hE, hEok, hb⟩; have ne := fun w => ne_of hE w; have gn := fun x c w => guard_errN E x c w; have HE := Lib.hid hE; clear hE; have f0 := new_free hb 0; have f1 := new_free hb 1; have f2 := new_free hb 2; have f3 := new_free hb 3; have z := new_size hb; have c0 := bl_cell (a := ⟨w.heap.size, 0, none⟩) (v := .string ⟨#[]⟩) hb (by simp); have c1 := bl_cell (a := ⟨w.heap.size, 1, none⟩) (v := .string ⟨#[]⟩) hb (by simp); have c2 := bl_cell (a := ⟨w.heap.size, 2, none⟩) (v := .string ⟨#[]⟩) hb (by simp); have c3 := bl_cell (a := ⟨w.heap.size, 3, none⟩) (v := .string ⟨#[]⟩) hb (by simp))
      go_region
      go_wp2
      refine bodyPost_ret (v := .tuple #[.agg #[.string (s.extract 0 4), .string (s.extract 4 6), .string (s.extract 6 8), .string ByteArray.empty], .nilIface]) (by have := fun o => four_after (a' := .string (s.extract 0 4)) (b' := .string (s.extract 4 6)) (c' := .string (s.extract 6 8)) (d' := .string ByteArray.empty) o c0 c1 c2 c3; simp only [four] at this; simp [results, Tryz.results78, go_sem, (this _).1, (this _).2.1, (this _).2.2.1, (this _).2.2.2]) rfl ⟨.nil, by rw [bicV_yes HK.out, branch8 h]; rfl, by rw [HK.out]; rfl, .inl rfl, ?_⟩
      exact bl_drew (bl_alloc (four_below (bl_then (bl_alloc (bl_refl w) _) hb) (Nat.le_refl _) _ _ _ _) _)
  · have hok : bicOK s = hasOK s form11 := if_neg h
    rw [← hok] at h11
    clear h8 hok
    have H11 := Lib.hid h11
    clear h11
    have happ : (⟨#[67, 67, 67, 67, 67, 67, 83, 83]⟩ : ByteArray) ++ ⟨#[83, 83, 83]⟩ = form11 := by decide
    cases hk : bicOK s
    · have HK := Lib.hid hk
      rw [hk] at H11
      clear hk
      go_enter Tryz.func78, Tryz.ntmps78
      go_wp2_with (go_at_call 159; refine (H11.out _ (HP.out.below (bl_alloc (bl_refl w) _))).mono ?_; rintro e w1 ⟨E, rfl, hE, hEok, hb⟩; have ne := fun w => ne_of hE w; have gn := fun x c w => guard_errN E x c w; have HE := Lib.hid hE; clear hE; have f0 := new_free hb 0; have f1 := new_free hb 1; have f2 := new_free hb 2; have f3 := new_free hb 3; have z := new_size hb; have c0 := bl_cell (a := ⟨w.heap.size, 0, none⟩) (v := .string ⟨#[]⟩) hb (by simp); have c1 := bl_cell (a := ⟨w.heap.size, 1, none⟩) (v := .string ⟨#[]⟩) hb (by simp); have c2 := bl_cell (a := ⟨w.heap.size, 2, none⟩) (v := .string ⟨#[]⟩) hb (by simp); have c3 := bl_cell (a := ⟨w.heap.size, 3, none⟩) (v := .string ⟨#[]⟩) hb (by simp))
      refine bodyPost_ret (v := .tuple #[.agg #[.string ⟨#[]⟩, .string ⟨#[]⟩, .string ⟨#[]⟩, .string ⟨#[]⟩], E.val]) (by have := four_cells (a' := .string ⟨#[]⟩) (b' := .string ⟨#[]⟩) (c' := .string ⟨#[]⟩) (d' := .string ⟨#[]⟩) c0 c1 c2 c3; simp only [four] at this; simp [results, Tryz.results78, go_sem, this.1, this.2.1, this.2.2.1, this.2.2.2]) rfl ⟨E, by rw [bicV_no HK.out], by rw [HE.out, HK.out], hEok, ?_⟩
      exact four_below (bl_then (bl_alloc (bl_refl w) _) hb) (Nat.le_refl _) _ _ _ _
    · have HK := Lib.hid hk
      rw [hk] at H11
      have h11s : s.size = 11 := (bicOK_size hk).resolve_left h
      clear hk
      go_enter Tryz.func78, Tryz.ntmps78
      go_wp2_with (go_at_call 159; refine (H11.out _ (HP.out.below (bl_alloc (bl_refl w) _))).mono ?_; rintro e w1 ⟨E, rfl, hE, hEok, hb⟩; have ne := fun w => ne_of hE w; have gn := fun x c w => guard_errN E x c w; have HE := Lib.hid hE; clear hE; have f0 := new_free hb 0; have f1 := new_free hb 1; have f2 := new_free hb 2; have f3 := new_free hb 3; have z := new_size hb; have c0 := bl_cell (a := ⟨w.heap.size, 0, none⟩) (v := .string ⟨#[]⟩) hb (by simp); have c1 := bl_cell (a := ⟨w.heap.size, 1, none⟩) (v := .string ⟨#[]⟩) hb (by simp); have c2 := bl_cell (a := ⟨w.heap.size, 2, none⟩) (v := .string ⟨#[]⟩) hb (by simp); have c3 := bl_cell (a := ⟨w.heap.size, 3, none⟩) (v := .string ⟨#[]⟩) hb (by simp))
      go_region
      go_wp2
      · refine bodyPost_ret (v := .tuple #[.agg #[.string (s.extract 0 4), .string (s.extract 4 6), .string (s.extract 6 8), .string ⟨#[]⟩], .nilIface]) (by have := fun o => four_after (a' := .string (s.extract 0 4)) (b' := .string (s.extract 4 6)) (c' := .string (s.extract 6 8)) (d' := .string ⟨#[]⟩) o c0 c1 c2 c3; simp only [four] at this; simp [results, Tryz.results78, go_sem, (this _).1, (this _).2.1, (this _).2.2.1, (this _).2.2.2]) rfl ⟨.nil, by rw [bicV_yes HK.out, branchX h11s ‹_›]; rfl, by rw [HK.out]; rfl, .inl rfl, ?_⟩
        exact bl_drew (bl_alloc (four_below (bl_then (bl_alloc (bl_refl w) _) hb) (Nat.le_refl _) _ _ _ _) _)
      · refine bodyPost_ret (v := .tuple #[.agg #[.string (s.extract 0 4), .string (s.extract 4 6), .string (s.extract 6 8), .string (s.extract 8 11)], .nilIface]) (by have := fun o => four_after (a' := .string (s.extract 0 4)) (b' := .string (s.extract 4 6)) (c' := .string (s.extract 6 8)) (d' := .string (s.extract 8 11)) o c0 c1 c2 c3; simp only [four] at this; simp [results, Tryz.results78, go_sem, (this _).1, (this _).2.1, (this _).2.2.1, (this _).2.2.2]) rfl ⟨.nil, by rw [bicV_yes HK.out, branchO h11s ‹_›]; rfl, by rw [HK.out]; rfl, .inl rfl, ?_⟩
        exact bl_drew (bl_alloc (four_below (bl_then (bl_alloc (bl_refl w) _) hb) (Nat.le_refl _) _ _ _ _) _)
theorem refBic_any (s : ByteArray) (hs : s.size ≤ 140737488351232) (w : World) :
    Calls Tryz.prog 93 #[.string s] w fun e w' => ∃ n a : Int, e = .returned (.tuple #[bicV s, .int .i64 n, .int .i64 a]) ∧ (n == 0) = bicOK s ∧ Below w.heap.size w w' := by
  have h8 := fun w => refHas_any s form8 lets8 hs (by decide) w
  have h11 := fun w => refHas_any s form11 lets11 hs (by decide) w
  by_cases h : s.size = 8
  · have hok : bicOK s = hasOK s form8 := if_pos h
    rw [← hok] at h8
    clear h11 hok
    have H8 := Lib.hid h8
    clear h8
    cases hk : bicOK s
    · have HK := Lib.hid hk
      rw [hk] at H8
      clear hk
      go_enter Tryz.func93, Tryz.ntmps93
      go_wp2_with (go_at_call 170; refine (H8.out _).mono ?_; rintro e w1 ⟨n, a, rfl, hn, hb⟩; have hne : (n != 0) = true := (by simp only [bne, hn, Bool.not_true, Bool.not_false]); have f0 := new_free hb 0; have f1 := new_free hb 1; have f2 := new_free hb 2; have f3 := new_free hb 3; have z := new_size hb; have c0 := bl_cell (a := ⟨w.heap.size, 0, none⟩) (v := .string ⟨#[]⟩) hb (by simp); have c1 := bl_cell (a := ⟨w.heap.size, 1, none⟩) (v := .string ⟨#[]⟩) hb (by simp); have c2 := bl_cell (a := ⟨w.heap.size, 2, none⟩) (v := .string ⟨#[]⟩) hb (by simp); have c3 := bl_cell (a := ⟨w.heap.size, 3, none⟩) (v := .string ⟨#[]⟩) hb (by simp); have HE := Lib.hid hn; clear hn)
      refine bodyPost_ret (v := .tuple #[.agg #[.string ⟨#[]⟩, .string ⟨#[]⟩, .string ⟨#[]⟩, .string ⟨#[]⟩], .int .i64 n, .int .i64 a]) (by have := four_cells (a' := .string ⟨#[]⟩) (b' := .string ⟨#[]⟩) (c' := .string ⟨#[]⟩) (d' := .string ⟨#[]⟩) c0 c1 c2 c3; simp only [four] at this; simp [results, Tryz.results93, go_sem, this.1, this.2.1, this.2.2.1, this.2.2.2]) rfl ⟨n, a, by rw [bicV_no HK.out], HE.out, ?_⟩
      exact four_below (bl_then (bl_alloc (bl_refl w) _) hb) (Nat.le_refl _) _ _ _ _
    · have HK := Lib.hid hk
      rw [hk] at H8
      clear hk
      go_enter Tryz.func93, Tryz.ntmps93
      go_wp2_with (go_at_call 170; refine (H8.out _).mono ?_; rintro e w1 ⟨n, a, rfl, hn, hb⟩; have hne : (n != 0) = false := (by simp only [bne, hn, Bool.not_true, Bool.not_false]); have f0 := new_free hb 0; have f1 := new_free hb 1; have f2 := new_free hb 2; have f3 := new_free hb 3; have z := new_size hb; have c0 := bl_cell (a := ⟨w.heap.size, 0, none⟩) (v := .string ⟨#[]⟩) hb (by simp); have c1 := bl_cell (a := ⟨w.heap.size, 1, none⟩) (v := .string ⟨#[]⟩) hb (by simp); have c2 := bl_cell (a := ⟨w.heap.size, 2, none⟩) (v := .string ⟨#[]⟩) hb (by simp); have c3 := bl_cell (a := ⟨w.heap.size, 3, none⟩) (v := .string ⟨#[]⟩) hb (by simp); have HE := Lib.hid hn; clear hn)
      all_goals go_region
      all_goals go_wp2
      · refine bodyPost_ret (v := .tuple #[.agg #[.string (s.extract 0 4), .string (s.extract 4 6), .string (s.extract 6 8), .string ByteArray.empty], .int .i64 0, .int .i64 0]) (by have := four_cells (a' := .string (s.extract 0 4)) (b' := .string (s.extract 4 6)) (c' := .string (s.extract 6 8)) (d' := .string ByteArray.empty) c0 c1 c2 c3; simp only [four] at this; have := fun (a : Addr) (v : Value) (w : World) (h : w.cell? a = some v) => drew_cell h; simp [results, Tryz.results93, go_sem, drew_cell ‹_ ∧ _ ∧ _ ∧ _›.1, drew_cell ‹_ ∧ _ ∧ _ ∧ _›.2.1, drew_cell ‹_ ∧ _ ∧ _ ∧ _›.2.2.1, drew_cell ‹_ ∧ _ ∧ _ ∧ _›.2.2.2]) rfl ⟨0, 0, by rw [bicV_yes HK.out, branch8 h], rfl, ?_⟩
        exact bl_drew (four_below (bl_then (bl_alloc (bl_refl w) _) hb) (Nat.le_refl _) _ _ _ _)
  · have hok : bicOK s = hasOK s form11 := if_neg h
    rw [← hok] at h11
    clear h8 hok
    have H11 := Lib.hid h11
    clear h11
    cases hk : bicOK s
    · have HK := Lib.hid hk
      rw [hk] at H11
      clear hk
      go_enter Tryz.func93, Tryz.ntmps93
      go_wp2_with (go_at_call 170; refine (H11.out _).mono ?_; rintro e w1 ⟨n, a, rfl, hn, hb⟩; have hne : (n != 0) = true := (by simp only [bne, hn, Bool.not_true, Bool.not_false]); have f0 := new_free hb 0; have f1 := new_free hb 1; have f2 := new_free hb 2; have f3 := new_free hb 3; have z := new_size hb; have c0 := bl_cell (a := ⟨w.heap.size, 0, none⟩) (v := .string ⟨#[]⟩) hb (by simp); have c1 := bl_cell (a := ⟨w.heap.size, 1, none⟩) (v := .string ⟨#[]⟩) hb (by simp); have c2 := bl_cell (a := ⟨w.heap.size, 2, none⟩) (v := .string ⟨#[]⟩) hb (by simp); have c3 := bl_cell (a := ⟨w.heap.size, 3, none⟩) (v := .string ⟨#[]⟩) hb (by simp); have HE := Lib.hid hn; clear hn)
      refine bodyPost_ret (v := .tuple #[.agg #[.string ⟨#[]⟩, .string ⟨#[]⟩, .string ⟨#[]⟩, .string ⟨#[]⟩], .int .i64 n, .int .i64 a]) (by have := four_cells (a' := .string ⟨#[]⟩) (b' := .string ⟨#[]⟩) (c' := .string ⟨#[]⟩) (d' := .string ⟨#[]⟩) c0 c1 c2 c3; simp only [four] at this; simp [results, Tryz.results93, go_sem, this.1, this.2.1, this.2.2.1, this.2.2.2]) rfl ⟨n, a, by rw [bicV_no HK.out], HE.out, ?_⟩
      exact four_below (bl_then (bl_alloc (bl_refl w) _) hb) (Nat.le_refl _) _ _ _ _
    · have HK := Lib.hid hk
      rw [hk] at H11
      have h11s : s.size = 11 := (bicOK_size hk).resolve_left h
      clear hk
      go_enter Tryz.func93, Tryz.ntmps93
      go_wp2_with (go_at_call 170; refine (H11.out _).mono ?_; rintro e w1 ⟨n, a, rfl, hn, hb⟩; have hne : (n != 0) = false := (by simp only [bne, hn, Bool.not_true, Bool.not_false]); have f0 := new_free hb 0; have f1 := new_free hb 1; have f2 := new_free hb 2; have f3 := new_free hb 3; have z := new_size hb; have c0 := bl_cell (a := ⟨w.heap.size, 0, none⟩) (v := .string ⟨#[]⟩) hb (by simp); have c1 := bl_cell (a := ⟨w.heap.size, 1, none⟩) (v := .string ⟨#[]⟩) hb (by simp); have c2 := bl_cell (a := ⟨w.heap.size, 2, none⟩) (v := .string ⟨#[]⟩) hb (by simp); have c3 := bl_cell (a := ⟨w.heap.size, 3, none⟩) (v := .string ⟨#[]⟩) hb (by simp); have HE := Lib.hid hn; clear hn)
      all_goals go_region
      all_goals go_wp2
      · refine bodyPost_ret (v := .tuple #[.agg #[.string (s.extract 0 4), .string (s.extract 4 6), .string (s.extract 6 8), .string ⟨#[]⟩], .int .i64 0, .int .i64 0]) (by have := four_cells (a' := .string (s.extract 0 4)) (b' := .string (s.extract 4 6)) (c' := .string (s.extract 6 8)) (d' := .string ⟨#[]⟩) c0 c1 c2 c3; simp only [four] at this; have := fun (a : Addr) (v : Value) (w : World) (h : w.cell? a = some v) => drew_cell h; simp [results, Tryz.results93, go_sem, drew_cell ‹_ ∧ _ ∧ _ ∧ _›.1, drew_cell ‹_ ∧ _ ∧ _ ∧ _›.2.1, drew_cell ‹_ ∧ _ ∧ _ ∧ _›.2.2.1, drew_cell ‹_ ∧ _ ∧ _ ∧ _›.2.2.2]) rfl ⟨0, 0, by rw [bicV_yes HK.out, branchX h11s ‹_›], rfl, ?_⟩
        exact bl_drew (four_below (bl_then (bl_alloc (bl_refl w) _) hb) (Nat.le_refl _) _ _ _ _)
      · refine bodyPost_ret (v := .tuple #[.agg #[.string (s.extract 0 4), .string (s.extract 4 6), .string (s.extract 6 8), .string (s.extract 8 11)], .int .i64 0, .int .i64 0]) (by have := four_cells (a' := .string (s.extract 0 4)) (b' := .string (s.extract 4 6)) (c' := .string (s.extract 6 8)) (d' := .string (s.extract 8 11)) c0 c1 c2 c3; simp only [four] at this; have := fun (a : Addr) (v : Value) (w : World) (h : w.cell? a = some v) => drew_cell h; simp [results, Tryz.results93, go_sem, drew_cell ‹_ ∧ _ ∧ _ ∧ _›.1, drew_cell ‹_ ∧ _ ∧ _ ∧ _›.2.1, drew_cell ‹_ ∧ _ ∧ _ ∧ _›.2.2.1, drew_cell ‹_ ∧ _ ∧ _ ∧ _›.2.2.2]) rfl ⟨0, 0, by rw [bicV_yes HK.out, branchO h11s ‹_›], rfl, ?_⟩
        exact bl_drew (four_below (bl_then (bl_alloc (bl_refl w) _) hb) (Nat.le_refl _) _ _ _ _)
end Go.Proofs.YtblfobepaipebaaGreatDoor
