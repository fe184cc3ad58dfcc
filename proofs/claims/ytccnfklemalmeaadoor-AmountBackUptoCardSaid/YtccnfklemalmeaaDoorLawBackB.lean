/- The law AmountBack by its walk: the good scales. -/
import Derived.Test.YtccnfklemalmeaaDoorLawBack
set_option linter.unusedVariables false
set_option linter.unusedSimpArgs false
set_option maxRecDepth 100000
namespace Go.Proofs.YtccnfklemalmeaaDoor
open Go.RowKit Go.Proofs.YtccnfklemalmeaaDoor.Tp Go.Proofs.YtccnfklemalmeaaDoorW.PrintWords

theorem agFormat_nil {n t : Int} {fv : ByteArray} (hn : I64 n) (ht : I64 t) (hF : fmtR n t = (fv, 0)) (w : World) : Calls Tryd.prog 46 #[.int .i64 n, .int .i64 t] w fun e w' => e = .returned (.tuple #[.string fv, .nilIface]) ∧ Below w.heap.size w w' :=
  (agFormat_any n t hn ht w).mono fun e w' ⟨E, he, ok, hE, hb⟩ => by
    rw [hF] at he hE
    obtain rfl := nil_of ok hE
    exact ⟨he, hb⟩
theorem rd_two (w : World) (n m : Int) (T : TypeId) : RdI (w.alloc (.cells #[.int .i64 n, .int .i64 m] T)) .i64 (some ⟨w.heap.size, 0, none⟩) 2 [n, m] :=
  ⟨rfl, by decide, fun _ => ⟨_, rfl, fun j hj => by
    rw [show (Addr.add ⟨w.heap.size, 0, none⟩ j) = ⟨w.heap.size, j, none⟩ by simp [Addr.add, eq_comm], World.cell?_alloc_new]
    rcases j with _ | _ | j
    · rfl
    · rfl
    · omega⟩⟩
theorem in_two {n m : Int} (hn : I64 n) (hm : I64 m) : In64 [n, m] := fun x hx => by
  rcases List.mem_cons.1 hx with rfl | hx
  · exact hn
  · rw [List.mem_singleton.1 hx]; exact hm
theorem sum_two (n m : Int) (T : TypeId) (hn : I64 n) (hm : I64 m) (t7 : sumE [n, m] = 0) (t8 : sumV [n, m] = n + m) (w : World) :
    Calls Tryd.prog 18 #[.slice (some ⟨w.heap.size, 0, none⟩) 2 2] (w.alloc (.cells #[.int .i64 n, .int .i64 m] T)) fun e w' => e = .returned (.tuple #[.int .i64 (n + m), .nilIface]) ∧ Below w.heap.size w w' :=
  (sum_s64 _ 2 2 [n, m] _ (rd_two w n m T) (by omega) (in_two hn hm)).mono fun e w' h => by
    rw [t7, t8] at h
    obtain ⟨he, hb⟩ := retE_nil h
    exact ⟨he, bl_then (bl_alloc (bl_refl w) _) hb⟩
set_option maxHeartbeats 1000000 in
theorem back_good (w : World) (hg : ErrT w) (n m : Int) (s : ByteArray) (t : Int) (hn : I64 n) (hm : I64 m) (hs : s.size ≤ 1048572) (ht : I64 t) (hgood : ¬ (n < 0 ∨ t < 0 ∨ 18 < t)) :
    Calls Tryd.prog 10 #[.int .i64 n, .int .i64 m, .string s, .int .i64 t] w fun e w' => e = .returned (.bool true) ∧ Below w.heap.size w w' := by
  have HG := Lib.hid hg
  have g1 : 0 ≤ n := by omega
  have g2 : 0 ≤ t := by omega
  have g3 : t ≤ 18 := by omega
  have hn2 : n ≤ 9223372036854775807 := hn.2
  have ht' : t.toNat ≤ 18 := by omega
  have ht0 : ((t.toNat : Nat) : Int) = t := by omega
  have hnn : ((n.toNat : Nat) : Int) = n := by omega
  have hF : fmtR n t = (fmtV n.toNat t.toNat, 0) := if_neg hgood
  have H3 := Lib.hid (fun w => agFormat_nil hn ht hF w)
  have hpr : ∀ x : ByteArray, parR x t = pR x.data.toList t.toNat := fun x => if_neg (by omega)
  have hz1 := fmt_le n.toNat t.toNat (by omega) ht'
  have hz2 := fmt_size n.toNat t.toNat
  have hp0 : parR (fmtV n.toNat t.toNat) t = (n, 0) := by rw [hpr, parse_format n.toNat t.toNat (by omega), hnn]
  have H4 := Lib.hid (fun w => amParse_nil (by omega) ht hp0 w)
  generalize fmtV n.toNat t.toNat = fv at H3 H4 hz1 hz2
  have f1 : ¬ ((fv.size : Int) < t + 1) := by omega
  have f2 : IntKind.i64.wrap (t + 1) = t + 1 := IntWalk.i64_in _ (by omega)
  have q0 : (n != n) = false := by simp
  have HTl := Lib.hid (tails n m ⟨g1, hn2⟩ hm)
  have HA := Lib.hid (fun w => add_any n m hn hm w)
  have HSb := Lib.hid (fun w => sub_any n m hn hm w)
  have HA2 := Lib.hid (fun (h : I64 (n - m)) w => add_any (n - m) m h hm w)
  have HS2 := Lib.hid (fun (h : I64 (n + m)) w => sub_any (n + m) m h hm w)
  have hw2 : s.size ≤ 1048576 := by omega
  have hsz1 : ((⟨#[48]⟩ : ByteArray) ++ s).size ≤ 1048576 := by rw [ByteArray.size_append]; have : (⟨#[48]⟩ : ByteArray).size = 1 := rfl; omega
  have hsz2 : (s ++ (⟨#[48]⟩ : ByteArray)).size ≤ 1048576 := by rw [ByteArray.size_append]; have : (⟨#[48]⟩ : ByteArray).size = 1 := rfl; omega
  have HPt := Lib.hid (fun w => pointed_any s hw2 w)
  rcases hy : parR s t with ⟨y, k⟩
  by_cases hk : k = 0
  · subst hk
    have hy' := hy
    rw [hpr] at hy'
    obtain ⟨h5, hy0⟩ := parse_zero hy'
    have h5' : parR (⟨#[48]⟩ ++ s) t = (y, 0) := by rw [hpr, list_cons]; exact h5
    have HP := Lib.hid (fun w => amParse_nil hw2 ht hy w)
    have HP1 := Lib.hid (fun w => amParse_nil hsz1 ht h5' w)
    have HE := Lib.hid (fun (hp : (46 : UInt8) ∈ s.data.toList) => (parse_end hp hy' : pR (s.data.toList ++ [48]) t.toNat = (y, 0) ∨ pR (s.data.toList ++ [48]) t.toNat = (0, 3)))
    have hq : parR (s ++ ⟨#[48]⟩) t = pR (s.data.toList ++ [48]) t.toNat := by rw [hpr, list_snoc]
    have HP2 := Lib.hid (fun w => amParse_any (s ++ ⟨#[48]⟩) hsz2 t ht w)
    rw [hq] at HP2
    have q1 : (y != y) = false := by simp
    clear hg hF hp0 hgood hnn ht0 hz2 hz1 hy hy' h5 h5' hpr hq hsz1 hsz2
    go_enter Tryd.func10, Tryd.ntmps10
    go_wp2_with fail
    refine (H3.out _).mono ?_
    rintro e w3 ⟨rfl, hb3⟩
    go_wp2_with fail
    refine (H4.out _).mono ?_
    rintro e w4 ⟨rfl, hb4⟩
    go_wp2_with fail
    refine (HP.out _).mono ?_
    rintro e w5 ⟨rfl, hb5⟩
    go_wp2_with fail
    refine (HP1.out _).mono ?_
    rintro e w6 ⟨rfl, hb6⟩
    go_wp2_with fail
    refine (HP2.out _).mono ?_
    rintro e w7 ⟨E7, rfl, ok7, n7, hb7⟩
    have hb37 := bl_then (bl_then (bl_then (bl_then hb3 hb4) hb5) hb6) hb7
    clear hb3 hb4 hb5 hb6 hb7
    have N7 := Lib.hid n7
    clear n7
    have HE' := HE.out
    generalize pR (s.data.toList ++ [48]) t.toNat = v at N7 HE' ⊢
    have HEE := Lib.hid HE'
    clear HE HE'
    obtain ⟨v, g⟩ := v
    have hsplit : ((46 : UInt8) ∈ s.data.toList ∧ v = y ∧ g = 0) ∨ ((46 : UInt8) ∈ s.data.toList ∧ v = 0 ∧ g = 3) ∨ (¬ (46 : UInt8) ∈ s.data.toList ∧ g = 0) ∨ (¬ (46 : UInt8) ∈ s.data.toList ∧ ¬ g = 0) := by
      by_cases hp : (46 : UInt8) ∈ s.data.toList
      · rcases HEE.out hp with h | h
        · exact .inl ⟨hp, (Prod.mk.inj h).1, (Prod.mk.inj h).2⟩
        · exact .inr (.inl ⟨hp, (Prod.mk.inj h).1, (Prod.mk.inj h).2⟩)
      · by_cases h : g = 0
        · exact .inr (.inr (.inl ⟨hp, h⟩))
        · exact .inr (.inr (.inr ⟨hp, h⟩))
    rcases hsplit with ⟨hp, rfl, rfl⟩ | ⟨hp, rfl, rfl⟩ | ⟨hp, rfl⟩ | ⟨hp, h0⟩
    · have hd : decide ((46 : UInt8) ∈ s.data.toList) = true := decide_eq_true hp
      rw [hd] at HPt
      obtain rfl := nil_of ok7 N7.out
      clear hp hd N7 ok7 HEE
      simp only [GErr.val]
      go_wp2_with fail
      refine (HPt.out _).mono ?_
      rintro e wx ⟨rfl, hbp⟩
      have hbx := bl_then hb37 hbp
      rcases HTl.out with ⟨t1, t2, t3, t4, t5, t6, t7, t8⟩ | ⟨t1, t2⟩ | ⟨t1, t2, t3, t4, t5, t6⟩
      · have HA' := HA.out
        rw [t2, t3] at HA'
        have HAA := Lib.hid HA'
        have HS' := HS2.out t4
        rw [t5, t6] at HS'
        have HSS := Lib.hid HS'
        have HST := Lib.hid (fun w => sum_two n m 2 hn hm t7 t8 w)
        skip
        have T4 := Lib.hid t4
        clear t2 t3 t5 t6 HA' HS' t7 t8 t4
        go_wp2_with fail
        refine (HAA.out _).mono ?_
        intro e wa ha
        obtain ⟨rfl, hba⟩ := retE_nil ha
        clear ha
        go_wp2_with fail
        refine (HSS.out _).mono ?_
        intro e wb hb
        obtain ⟨rfl, hbb⟩ := retE_nil hb
        clear hb
        go_wp2_with fail
        refine (HST.out _).mono ?_
        rintro e wc ⟨rfl, hbc⟩
        go_wp2
        go_ret
        exact ⟨by simp, bl_then (bl_then (bl_then hbx hba) hbb) hbc⟩
      · have T1 := Lib.hid t1
        have T2 := Lib.hid t2
        clear t1 t2
        go_wp2_with fail
        refine (HA.out _).mono ?_
        intro e wa ha
        obtain ⟨Ea, rfl, hna, hba⟩ := retE_bad T1.out ha
        have na := fun w => ne_false hna w
        have nga := guard_err Ea
        clear ha
        go_wp2_with fail
        refine (HSb.out _).mono ?_
        intro e wb hb
        obtain ⟨Eb, rfl, hnb, hbb⟩ := retE_bad T2.out hb
        have nb := fun w => ne_true hnb w
        have ngb := guard_errN Eb
        clear hb
        go_wp2
        go_ret
        exact ⟨rfl, bl_then (bl_then hbx hba) hbb⟩
      · have HS' := HSb.out
        rw [t2, t3] at HS'
        have HSS := Lib.hid HS'
        have HA' := HA2.out t4
        rw [t5, t6] at HA'
        have HAA := Lib.hid HA'
        have T1 := Lib.hid t1
        clear t1 t2 t3 t5 t6 t4 HS' HA'
        go_wp2_with fail
        refine (HA.out _).mono ?_
        intro e wa ha
        obtain ⟨Ea, rfl, hna, hba⟩ := retE_bad T1.out ha
        have na := fun w => ne_false hna w
        have nga := guard_err Ea
        clear ha
        go_wp2_with fail
        refine (HSS.out _).mono ?_
        intro e wb hb
        obtain ⟨rfl, hbb⟩ := retE_nil hb
        clear hb
        go_wp2_with fail
        refine (HAA.out _).mono ?_
        intro e wc hc
        obtain ⟨rfl, hbc⟩ := retE_nil hc
        clear hc
        go_wp2
        go_ret
        exact ⟨by simp, bl_then (bl_then (bl_then hbx hba) hbb) hbc⟩
    · have hd : decide ((46 : UInt8) ∈ s.data.toList) = true := decide_eq_true hp
      rw [hd] at HPt
      have hn7 := ne_nil_of (E := E7) (by rw [N7.out]; decide)
      have n7a := fun w => ne_true hn7 w
      have n7b := guard_errN E7
      clear hp hd HEE hn7
      go_wp2_with fail
      refine (HPt.out _).mono ?_
      rintro e w8 ⟨rfl, hbp⟩
      have hb8 := bl_then hb37 hbp
      go_wp2_with fail
      refine (plain_eq E7 ok7 _ N7.out _ (HG.out.below hb8)).mono ?_
      rintro e wx ⟨rfl, hbq⟩
      have hbx := bl_then hb8 hbq
      rcases HTl.out with ⟨t1, t2, t3, t4, t5, t6, t7, t8⟩ | ⟨t1, t2⟩ | ⟨t1, t2, t3, t4, t5, t6⟩
      · have HA' := HA.out
        rw [t2, t3] at HA'
        have HAA := Lib.hid HA'
        have HS' := HS2.out t4
        rw [t5, t6] at HS'
        have HSS := Lib.hid HS'
        have HST := Lib.hid (fun w => sum_two n m 2 hn hm t7 t8 w)
        skip
        have T4 := Lib.hid t4
        clear t2 t3 t5 t6 HA' HS' t7 t8 t4
        go_wp2_with fail
        refine (HAA.out _).mono ?_
        intro e wa ha
        obtain ⟨rfl, hba⟩ := retE_nil ha
        clear ha
        go_wp2_with fail
        refine (HSS.out _).mono ?_
        intro e wb hb
        obtain ⟨rfl, hbb⟩ := retE_nil hb
        clear hb
        go_wp2_with fail
        refine (HST.out _).mono ?_
        rintro e wc ⟨rfl, hbc⟩
        go_wp2
        go_ret
        exact ⟨by simp, bl_then (bl_then (bl_then hbx hba) hbb) hbc⟩
      · have T1 := Lib.hid t1
        have T2 := Lib.hid t2
        clear t1 t2
        go_wp2_with fail
        refine (HA.out _).mono ?_
        intro e wa ha
        obtain ⟨Ea, rfl, hna, hba⟩ := retE_bad T1.out ha
        have na := fun w => ne_false hna w
        have nga := guard_err Ea
        clear ha
        go_wp2_with fail
        refine (HSb.out _).mono ?_
        intro e wb hb
        obtain ⟨Eb, rfl, hnb, hbb⟩ := retE_bad T2.out hb
        have nb := fun w => ne_true hnb w
        have ngb := guard_errN Eb
        clear hb
        go_wp2
        go_ret
        exact ⟨rfl, bl_then (bl_then hbx hba) hbb⟩
      · have HS' := HSb.out
        rw [t2, t3] at HS'
        have HSS := Lib.hid HS'
        have HA' := HA2.out t4
        rw [t5, t6] at HA'
        have HAA := Lib.hid HA'
        have T1 := Lib.hid t1
        clear t1 t2 t3 t5 t6 t4 HS' HA'
        go_wp2_with fail
        refine (HA.out _).mono ?_
        intro e wa ha
        obtain ⟨Ea, rfl, hna, hba⟩ := retE_bad T1.out ha
        have na := fun w => ne_false hna w
        have nga := guard_err Ea
        clear ha
        go_wp2_with fail
        refine (HSS.out _).mono ?_
        intro e wb hb
        obtain ⟨rfl, hbb⟩ := retE_nil hb
        clear hb
        go_wp2_with fail
        refine (HAA.out _).mono ?_
        intro e wc hc
        obtain ⟨rfl, hbc⟩ := retE_nil hc
        clear hc
        go_wp2
        go_ret
        exact ⟨by simp, bl_then (bl_then (bl_then hbx hba) hbb) hbc⟩
    · have hd : decide ((46 : UInt8) ∈ s.data.toList) = false := decide_eq_false hp
      rw [hd] at HPt
      obtain rfl := nil_of ok7 N7.out
      clear hp hd N7 ok7 HEE
      simp only [GErr.val]
      go_wp2_with fail
      refine (HPt.out _).mono ?_
      rintro e wx ⟨rfl, hbp⟩
      have hbx := bl_then hb37 hbp
      rcases HTl.out with ⟨t1, t2, t3, t4, t5, t6, t7, t8⟩ | ⟨t1, t2⟩ | ⟨t1, t2, t3, t4, t5, t6⟩
      · have HA' := HA.out
        rw [t2, t3] at HA'
        have HAA := Lib.hid HA'
        have HS' := HS2.out t4
        rw [t5, t6] at HS'
        have HSS := Lib.hid HS'
        have HST := Lib.hid (fun w => sum_two n m 2 hn hm t7 t8 w)
        skip
        have T4 := Lib.hid t4
        clear t2 t3 t5 t6 HA' HS' t7 t8 t4
        go_wp2_with fail
        refine (HAA.out _).mono ?_
        intro e wa ha
        obtain ⟨rfl, hba⟩ := retE_nil ha
        clear ha
        go_wp2_with fail
        refine (HSS.out _).mono ?_
        intro e wb hb
        obtain ⟨rfl, hbb⟩ := retE_nil hb
        clear hb
        go_wp2_with fail
        refine (HST.out _).mono ?_
        rintro e wc ⟨rfl, hbc⟩
        go_wp2
        go_ret
        exact ⟨by simp, bl_then (bl_then (bl_then hbx hba) hbb) hbc⟩
      · have T1 := Lib.hid t1
        have T2 := Lib.hid t2
        clear t1 t2
        go_wp2_with fail
        refine (HA.out _).mono ?_
        intro e wa ha
        obtain ⟨Ea, rfl, hna, hba⟩ := retE_bad T1.out ha
        have na := fun w => ne_false hna w
        have nga := guard_err Ea
        clear ha
        go_wp2_with fail
        refine (HSb.out _).mono ?_
        intro e wb hb
        obtain ⟨Eb, rfl, hnb, hbb⟩ := retE_bad T2.out hb
        have nb := fun w => ne_true hnb w
        have ngb := guard_errN Eb
        clear hb
        go_wp2
        go_ret
        exact ⟨rfl, bl_then (bl_then hbx hba) hbb⟩
      · have HS' := HSb.out
        rw [t2, t3] at HS'
        have HSS := Lib.hid HS'
        have HA' := HA2.out t4
        rw [t5, t6] at HA'
        have HAA := Lib.hid HA'
        have T1 := Lib.hid t1
        clear t1 t2 t3 t5 t6 t4 HS' HA'
        go_wp2_with fail
        refine (HA.out _).mono ?_
        intro e wa ha
        obtain ⟨Ea, rfl, hna, hba⟩ := retE_bad T1.out ha
        have na := fun w => ne_false hna w
        have nga := guard_err Ea
        clear ha
        go_wp2_with fail
        refine (HSS.out _).mono ?_
        intro e wb hb
        obtain ⟨rfl, hbb⟩ := retE_nil hb
        clear hb
        go_wp2_with fail
        refine (HAA.out _).mono ?_
        intro e wc hc
        obtain ⟨rfl, hbc⟩ := retE_nil hc
        clear hc
        go_wp2
        go_ret
        exact ⟨by simp, bl_then (bl_then (bl_then hbx hba) hbb) hbc⟩
    · have hd : decide ((46 : UInt8) ∈ s.data.toList) = false := decide_eq_false hp
      rw [hd] at HPt
      have hn7 := ne_nil_of (E := E7) (by rw [N7.out]; exact h0)
      have n7a := fun w => ne_true hn7 w
      have n7b := guard_errN E7
      clear hp hd HEE hn7
      go_wp2_with fail
      refine (HPt.out _).mono ?_
      rintro e wx ⟨rfl, hbp⟩
      have hbx := bl_then hb37 hbp
      rcases HTl.out with ⟨t1, t2, t3, t4, t5, t6, t7, t8⟩ | ⟨t1, t2⟩ | ⟨t1, t2, t3, t4, t5, t6⟩
      · have HA' := HA.out
        rw [t2, t3] at HA'
        have HAA := Lib.hid HA'
        have HS' := HS2.out t4
        rw [t5, t6] at HS'
        have HSS := Lib.hid HS'
        have HST := Lib.hid (fun w => sum_two n m 2 hn hm t7 t8 w)
        skip
        have T4 := Lib.hid t4
        clear t2 t3 t5 t6 HA' HS' t7 t8 t4
        go_wp2_with fail
        refine (HAA.out _).mono ?_
        intro e wa ha
        obtain ⟨rfl, hba⟩ := retE_nil ha
        clear ha
        go_wp2_with fail
        refine (HSS.out _).mono ?_
        intro e wb hb
        obtain ⟨rfl, hbb⟩ := retE_nil hb
        clear hb
        go_wp2_with fail
        refine (HST.out _).mono ?_
        rintro e wc ⟨rfl, hbc⟩
        go_wp2
        go_ret
        exact ⟨by simp, bl_then (bl_then (bl_then hbx hba) hbb) hbc⟩
      · have T1 := Lib.hid t1
        have T2 := Lib.hid t2
        clear t1 t2
        go_wp2_with fail
        refine (HA.out _).mono ?_
        intro e wa ha
        obtain ⟨Ea, rfl, hna, hba⟩ := retE_bad T1.out ha
        have na := fun w => ne_false hna w
        have nga := guard_err Ea
        clear ha
        go_wp2_with fail
        refine (HSb.out _).mono ?_
        intro e wb hb
        obtain ⟨Eb, rfl, hnb, hbb⟩ := retE_bad T2.out hb
        have nb := fun w => ne_true hnb w
        have ngb := guard_errN Eb
        clear hb
        go_wp2
        go_ret
        exact ⟨rfl, bl_then (bl_then hbx hba) hbb⟩
      · have HS' := HSb.out
        rw [t2, t3] at HS'
        have HSS := Lib.hid HS'
        have HA' := HA2.out t4
        rw [t5, t6] at HA'
        have HAA := Lib.hid HA'
        have T1 := Lib.hid t1
        clear t1 t2 t3 t5 t6 t4 HS' HA'
        go_wp2_with fail
        refine (HA.out _).mono ?_
        intro e wa ha
        obtain ⟨Ea, rfl, hna, hba⟩ := retE_bad T1.out ha
        have na := fun w => ne_false hna w
        have nga := guard_err Ea
        clear ha
        go_wp2_with fail
        refine (HSS.out _).mono ?_
        intro e wb hb
        obtain ⟨rfl, hbb⟩ := retE_nil hb
        clear hb
        go_wp2_with fail
        refine (HAA.out _).mono ?_
        intro e wc hc
        obtain ⟨rfl, hbc⟩ := retE_nil hc
        clear hc
        go_wp2
        go_ret
        exact ⟨by simp, bl_then (bl_then (bl_then hbx hba) hbb) hbc⟩
  · have HP := Lib.hid (fun w => amParse_bad hw2 ht hy hk w)
    clear hg hF hp0 hgood hnn ht0 hz2 hz1 hy hpr hsz1 hsz2 hk
    go_enter Tryd.func10, Tryd.ntmps10
    go_wp2_with fail
    refine (H3.out _).mono ?_
    rintro e w3 ⟨rfl, hb3⟩
    go_wp2_with fail
    refine (H4.out _).mono ?_
    rintro e w4 ⟨rfl, hb4⟩
    go_wp2_with fail
    refine (HP.out _).mono ?_
    rintro e wx ⟨E5, rfl, ok5, n5, hn5, hb5⟩
    have N5 := Lib.hid n5
    have n5a := fun w => ne_false hn5 w
    have n5b := guard_err E5
    clear n5 hn5
    have hbx := bl_then (bl_then hb3 hb4) hb5
    rcases HTl.out with ⟨t1, t2, t3, t4, t5, t6, t7, t8⟩ | ⟨t1, t2⟩ | ⟨t1, t2, t3, t4, t5, t6⟩
    · have HA' := HA.out
      rw [t2, t3] at HA'
      have HAA := Lib.hid HA'
      have HS' := HS2.out t4
      rw [t5, t6] at HS'
      have HSS := Lib.hid HS'
      have HST := Lib.hid (fun w => sum_two n m 2 hn hm t7 t8 w)
      skip
      have T4 := Lib.hid t4
      clear t2 t3 t5 t6 HA' HS' t7 t8 t4
      go_wp2_with fail
      refine (HAA.out _).mono ?_
      intro e wa ha
      obtain ⟨rfl, hba⟩ := retE_nil ha
      clear ha
      go_wp2_with fail
      refine (HSS.out _).mono ?_
      intro e wb hb
      obtain ⟨rfl, hbb⟩ := retE_nil hb
      clear hb
      go_wp2_with fail
      refine (HST.out _).mono ?_
      rintro e wc ⟨rfl, hbc⟩
      go_wp2
      go_ret
      exact ⟨by simp, bl_then (bl_then (bl_then hbx hba) hbb) hbc⟩
    · have T1 := Lib.hid t1
      have T2 := Lib.hid t2
      clear t1 t2
      go_wp2_with fail
      refine (HA.out _).mono ?_
      intro e wa ha
      obtain ⟨Ea, rfl, hna, hba⟩ := retE_bad T1.out ha
      have na := fun w => ne_false hna w
      have nga := guard_err Ea
      clear ha
      go_wp2_with fail
      refine (HSb.out _).mono ?_
      intro e wb hb
      obtain ⟨Eb, rfl, hnb, hbb⟩ := retE_bad T2.out hb
      have nb := fun w => ne_true hnb w
      have ngb := guard_errN Eb
      clear hb
      go_wp2
      go_ret
      exact ⟨rfl, bl_then (bl_then hbx hba) hbb⟩
    · have HS' := HSb.out
      rw [t2, t3] at HS'
      have HSS := Lib.hid HS'
      have HA' := HA2.out t4
      rw [t5, t6] at HA'
      have HAA := Lib.hid HA'
      have T1 := Lib.hid t1
      clear t1 t2 t3 t5 t6 t4 HS' HA'
      go_wp2_with fail
      refine (HA.out _).mono ?_
      intro e wa ha
      obtain ⟨Ea, rfl, hna, hba⟩ := retE_bad T1.out ha
      have na := fun w => ne_false hna w
      have nga := guard_err Ea
      clear ha
      go_wp2_with fail
      refine (HSS.out _).mono ?_
      intro e wb hb
      obtain ⟨rfl, hbb⟩ := retE_nil hb
      clear hb
      go_wp2_with fail
      refine (HAA.out _).mono ?_
      intro e wc hc
      obtain ⟨rfl, hbc⟩ := retE_nil hc
      clear hc
      go_wp2
      go_ret
      exact ⟨by simp, bl_then (bl_then (bl_then hbx hba) hbb) hbc⟩
theorem rowlaw_AmountBack (w : World) (hg : ErrT w) (n m : Int) (s : ByteArray) (t : Int) (hn : I64 n) (hm : I64 m) (hs : s.size ≤ 1048572) (ht : I64 t) :
    Calls Tryd.prog 10 #[.int .i64 n, .int .i64 m, .string s, .int .i64 t] w fun e w' => e = .returned (.bool true) ∧ Below w.heap.size w w' := by
  by_cases hbad : n < 0 ∨ t < 0 ∨ 18 < t
  · exact back_bad w hg n m s t hn hm ht hbad
  · exact back_good w hg n m s t hn hm hs ht hbad
end Go.Proofs.YtccnfklemalmeaaDoor
