/- The law AmountTexts by its walk. -/
import Derived.Test.YtccnfklemalmeaaDoorParseA
import Derived.Test.YtccnfklemalmeaaDoorFormat
import Derived.Test.YtccnfklemalmeaaDoorSums
set_option linter.unusedVariables false
set_option linter.unusedSimpArgs false
set_option maxRecDepth 100000
namespace Go.Proofs.YtccnfklemalmeaaDoor
open Go.RowKit Go.Proofs.YtccnfklemalmeaaDoor.Tp Go.Proofs.YtccnfklemalmeaaDoor.PAmountTexts Go.Proofs.YtccnfklemalmeaaDoorW.PrintWords

def parR (s : ByteArray) (t : Int) : Int × Int := if t < 0 ∨ 18 < t then (0, 1) else pR s.data.toList t.toNat
def fmtR (n t : Int) : ByteArray × Int := if n < 0 ∨ t < 0 ∨ 18 < t then (⟨#[]⟩, 1) else (fmtV n.toNat t.toNat, 0)
theorem amParse_any (s : ByteArray) (hs : s.size ≤ 1048576) (t : Int) (ht : I64 t) (w : World) : Calls Tryd.prog 47 #[.string s, .int .i64 t] w (PRetA (parR s t) w) := by
  obtain ⟨h1, h2⟩ := ht
  by_cases hbad : t < 0 ∨ 18 < t
  · have hr : Hid (parR s t = (0, 1)) := Lib.hid (if_pos hbad)
    by_cases g1 : t < 0
    · clear hbad
      go_enter Tryd.func47, Tryd.ntmps47
      go_wp2
      go_ret2
      rw [hr.out]
      exact ⟨.no 1, rfl, .inr (by simp [GErr.num]), rfl, bl_refl _⟩
    · have g2 : 18 < t := by omega
      clear hbad
      go_enter Tryd.func47, Tryd.ntmps47
      go_wp2
      go_ret2
      rw [hr.out]
      exact ⟨.no 1, rfl, .inr (by simp [GErr.num]), rfl, bl_refl _⟩
  · have hr : parR s t = pR s.data.toList t.toNat := if_neg hbad
    rw [hr]
    obtain ⟨m, rfl⟩ := Int.eq_ofNat_of_zero_le (show 0 ≤ t by omega)
    exact amParse_good s hs m (by omega) w
theorem rfParse_any (s : ByteArray) (hs : s.size ≤ 1048576) (t : Int) (ht : I64 t) (w : World) : Calls Tryd.prog 45 #[.string s, .int .i64 t] w fun e w' => e = .returned (.tuple #[.int .i64 (parR s t).1, .int .i64 (parR s t).2]) ∧ Below w.heap.size w w' :=
  (refParse_any s hs t ht w).mono fun e w' ⟨h, hb⟩ => ⟨by
    rcases h with ⟨h1, h2⟩ | ⟨h1, h2⟩
    · rw [h2, show parR s t = (0, 1) from if_pos h1]
    · rw [h2, show parR s t = pR s.data.toList t.toNat from if_neg h1], hb⟩
theorem rfFormat_any (n t : Int) (hn : I64 n) (ht : I64 t) (w : World) : Calls Tryd.prog 44 #[.int .i64 n, .int .i64 t] w fun e w' => e = .returned (.tuple #[.string (fmtR n t).1, .int .i64 (fmtR n t).2]) ∧ Below w.heap.size w w' :=
  (refFormat_any n t hn ht w).mono fun e w' ⟨h, hb⟩ => ⟨by
    rcases h with ⟨h1, h2⟩ | ⟨h1, h2⟩
    · rw [h2, show fmtR n t = (⟨#[]⟩, 1) from if_pos h1]
    · rw [h2, show fmtR n t = (fmtV n.toNat t.toNat, 0) from if_neg h1], hb⟩
theorem agFormat_any (n t : Int) (hn : I64 n) (ht : I64 t) (w : World) : Calls Tryd.prog 46 #[.int .i64 n, .int .i64 t] w fun e w' => ∃ E : GErr, e = .returned (.tuple #[.string (fmtR n t).1, E.val]) ∧ E.ok ∧ E.num = (fmtR n t).2 ∧ Below w.heap.size w w' :=
  (amFormat_any n t hn ht w).mono fun e w' ⟨h, hb⟩ => by
    rcases h with ⟨h1, h2⟩ | ⟨h1, h2⟩
    · exact ⟨.no 1, by rw [h2, show fmtR n t = (⟨#[]⟩, 1) from if_pos h1], .inr (by simp [GErr.num]), by rw [show fmtR n t = (⟨#[]⟩, 1) from if_pos h1]; rfl, hb⟩
    · exact ⟨.nil, by rw [h2, show fmtR n t = (fmtV n.toNat t.toNat, 0) from if_neg h1], .inl rfl, by rw [show fmtR n t = (fmtV n.toNat t.toNat, 0) from if_neg h1]; rfl, hb⟩
theorem rowlaw_AmountTexts (w : World) (hg : ErrT w) (n : Int) (s : ByteArray) (t : Int) (hn : I64 n) (hs : s.size ≤ 1048576) (ht : I64 t) :
    Calls Tryd.prog 9 #[.int .i64 n, .string s, .int .i64 t] w fun e w' => e = .returned (.bool true) ∧ Below w.heap.size w w' := by
  have HG := Lib.hid hg
  have H1 := Lib.hid (fun w => rfFormat_any n t hn ht w)
  have H2 := Lib.hid (fun w => rfParse_any s hs t ht w)
  have H3 := Lib.hid (fun w => agFormat_any n t hn ht w)
  have H4 := Lib.hid (fun w => amParse_any s hs t ht w)
  clear hg
  generalize fmtR n t = F at H1 H3
  generalize parR s t = R at H2 H4
  obtain ⟨fv, fe⟩ := F
  obtain ⟨rv, re⟩ := R
  have q1 : (rv == rv) = true := beq_self_eq_true _
  go_enter Tryd.func9, Tryd.ntmps9
  go_wp2_with fail
  refine (H1.out _).mono ?_
  rintro e w1 ⟨rfl, hb1⟩
  go_wp2_with fail
  refine (H2.out _).mono ?_
  rintro e w2 ⟨rfl, hb2⟩
  go_wp2_with fail
  refine (H3.out _).mono ?_
  rintro e w3 ⟨E3, rfl, ok3, n3, hb3⟩
  have N3 := Lib.hid n3
  clear n3
  go_wp2_with fail
  refine (H4.out _).mono ?_
  rintro e w4 ⟨E4, rfl, ok4, n4, hb4⟩
  have N4 := Lib.hid n4
  clear n4
  have hb14 := bl_then (bl_then (bl_then hb1 hb2) hb3) hb4
  go_wp2_with fail
  refine (plain_eq E3 ok3 _ N3.out _ (HG.out.below hb14)).mono ?_
  rintro e w5 ⟨rfl, hb5⟩
  go_wp2_with fail
  refine (plain_eq E4 ok4 _ N4.out _ (HG.out.below (bl_then hb14 hb5))).mono ?_
  rintro e w6 ⟨rfl, hb6⟩
  go_wp2
  go_ret
  exact ⟨rfl, bl_then (bl_then hb14 hb5) hb6⟩
end Go.Proofs.YtccnfklemalmeaaDoor
