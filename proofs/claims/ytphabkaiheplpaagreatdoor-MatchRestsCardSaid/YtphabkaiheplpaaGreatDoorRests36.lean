/- Joined texts of this proof: Works22. -/
import Derived.Outline
import Derived.Test.YtphabkaiheplpaaGreatDoorRests35
/- custodylaw22.works. -/
set_option linter.unusedVariables false
set_option linter.unusedSimpArgs false
set_option maxRecDepth 100000
namespace Go.Proofs.YtphabkaiheplpaaGreatDoor
open Go.RowKit Go.Shelf

theorem one_old {w : World} {g : Nat} {o : Obj} (h : One w g) : One (w.alloc o) g := by
  obtain ⟨cur, T, fr, hg, hc⟩ := h
  exact ⟨cur, T, fr, blk_none hg (gb_below (bl_alloc (bl_refl w) o)), hc⟩
theorem one_fresh (w : World) : One (w.alloc (.cells #[.int .i64 1, .int .i64 0, .int .i64 5000] 76)) w.heap.size := ⟨_, _, _, heap_alloc_new w _, rfl, rfl, rfl⟩
theorem newF_ge {F : Nat → Prop} {B : Nat} {w W : World} (hF : ∀ i, F i → B ≤ i) (hB : B ≤ w.heap.size) : ∀ i, newF F w W i → B ≤ i := fun i hi => by
  rcases hi with hi | hi
  · exact hF i hi
  · omega
set_option maxHeartbeats 8000000 in
set_option maxRecDepth 1000000 in
theorem works_any (w : World) (hp : PowT w) : Calls Tryz.prog 8 #[] w fun e w' => e = .returned (.bool true) ∧ Below w.heap.size w w' := by
  have HD := Lib.hid deliver_any
  have HR := Lib.hid receive_any
  have HME : Hid (∀ w, Calls Tryz.prog 27 #[] w fun e w' => e = .returned (.slice (some ⟨w.heap.size, 0, none⟩) 2 2) ∧ w' = w.alloc memO) := Lib.hid members_any
  have HF := Lib.hid ex_fit
  have HN := Lib.hid ex_new
  have HA1 := Lib.hid (fun F W b h hp hf => ex_add1 (F := F) (W := W) (b := b) h hp hf)
  have HA2 := Lib.hid (fun F W b la lc h hp hf => ex_add2 (F := F) (W := W) (b := b) (la := la) (lc := lc) h hp hf)
  have HPS := Lib.hid (fun F W b es h => ex_pairs (F := F) (W := W) (b := b) (es := es) h)
  have HSP := Lib.hid same_one
  have HP := Lib.hid hp
  have HPF := Lib.hid (fun (w W : World) (h : PowT w) => pow_free (W := W) h)
  generalize sideC 0 nD = SD at *
  generalize sideC 1 nR = SR at *
  clear hp
  go_enter Tryz.func8, Tryz.ntmps8
  go_upto_region 2 with (first | (go_at_call 25; (with_reducible refine (HD.out _).mono ?_); rintro e w1 ⟨rfl, hb⟩; have HB1 := Lib.hid hb; clear hb) | (go_at_call 26; (with_reducible refine (HR.out _).mono ?_); rintro e w2 ⟨rfl, hb⟩; have HB2 := Lib.hid (bl_then HB1.out hb); clear hb HB1) | (go_at_call 27; (with_reducible refine (HME.out _).mono ?_); rintro e w3 ⟨rfl, rfl⟩) | (go_at_call 7; (with_reducible refine (HF.out w2 (HP.out.below HB2.out)).mono ?_); rintro e w4 ⟨rfl, hb⟩; have HB4 := Lib.hid (bl_then (bl_alloc HB2.out memO) hb); clear hb HB2))
  go_upto_region 3 with (first | (go_at_call 27; (with_reducible refine (HME.out _).mono ?_); rintro e w5 ⟨rfl, rfl⟩) | (go_at_call 9; (with_reducible refine (HN.out w4).mono ?_); rintro e w6 ⟨b, rfl, hB, hb⟩; have HB6 := Lib.hid (bl_then (bl_alloc HB4.out memO) hb); have HK6 := Lib.hid hB; have HF6 := Lib.hid (HPF.out _ w6 (HP.out.below (bl_alloc HB4.out memO))); have HL6 := Lib.hid (bl_alloc HB4.out memO).size; clear hb hB HB4))
  generalize (w4.alloc memO).heap.size = N5 at HK6 HF6 HL6
  go_upto_region 5 with fail
  go_upto_region 6 with (first | (go_at_call 26; (with_reducible refine (HR.out _).mono ?_); rintro e w7 ⟨rfl, hb⟩; have HB7 := Lib.hid (bl_then HB6.out hb); have HK7 := Lib.hid (HK6.out.grow hb); clear hb HB6 HK6) | (go_at_call 10; (with_reducible refine (HA1.out _ _ b HK7.out (HP.out.below HB7.out) HF6.out).mono ?_); rintro e w8 ⟨la, lc, rfl, hB, hfr⟩; have HK8 := Lib.hid hB; have HF8 := Lib.hid (HF6.out.newF (W := w8) (HP.out.below HB7.out)); have HB8 := Lib.hid (below_fr HB7.out hfr (fun i hi => by have := HL6.out; omega) HB7.out.size); have HL8 := Lib.hid (newF_ge (F := fun i => N5 ≤ i ∧ i < w6.heap.size) (w := w7) (W := w8) (fun i hi => by have := HL6.out; omega) HB7.out.size); clear hB hfr HB7 HK7 HF6 HL6))
  generalize newF (fun i => N5 ≤ i ∧ i < w6.heap.size) w7 w8 = F8 at HK8 HF8 HL8
  go_upto_region 7 with (first | (go_at_call 25; (with_reducible refine (HD.out _).mono ?_); rintro e w9 ⟨rfl, hb⟩; have HB9 := Lib.hid (bl_then HB8.out hb); have HK9 := Lib.hid (HK8.out.grow hb); clear hb HB8 HK8) | (go_at_call 10; (with_reducible refine (HA2.out _ _ b la lc HK9.out (HP.out.below HB9.out) HF8.out).mono ?_); rintro e w10 ⟨es, rfl, hB, hfr⟩; have HK10 := Lib.hid hB; have HB10 := Lib.hid (below_fr HB9.out hfr HL8.out HB9.out.size); clear hB hfr HB9 HK9 HF8 HL8))
  generalize newF F8 w9 w10 = F10 at HK10
  have hnn : ∀ w, (binOp .eql 36 .nilIface .nilIface).run Tryz.prog w = .ok (.bool true) w := fun w => eql_nil_err .nil w
  have hgn := fun x c w => guard_err .nil x c w
  go_wp2_with (first | (go_at_call 11; (with_reducible refine (HPS.out _ _ b es HK10.out).mono ?_); rintro e w11 ⟨g, c, rfl, ho, hb⟩; have HO := Lib.hid ho; have HB11 := Lib.hid (bl_then HB10.out hb); clear ho hb HB10) | (go_at_call 28; (with_reducible refine (HSP.out g w11.heap.size c 1 _ (one_old HO.out) (one_fresh w11)).mono ?_); rintro e w12 ⟨rfl, hb⟩; have HB12 := Lib.hid (bl_then (bl_alloc HB11.out _) hb); clear hb HB11))
  go_ret
  exact ⟨rfl, HB12.out⟩
end Go.Proofs.YtphabkaiheplpaaGreatDoor
