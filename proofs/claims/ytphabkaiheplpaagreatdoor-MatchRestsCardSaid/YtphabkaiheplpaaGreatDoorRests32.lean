/- Joined texts of this proof: Wk22. -/
import Derived.Outline
import Derived.Test.YtphabkaiheplpaaGreatDoorRests24
import Derived.Test.YtphabkaiheplpaaGreatDoorRests25
/- The example of chapter 22: its sides and its members. -/
set_option linter.unusedVariables false
set_option linter.unusedSimpArgs false
set_option maxRecDepth 100000
namespace Go.Proofs.YtphabkaiheplpaaGreatDoor
open Go.RowKit Go.Shelf

def codeW : Nat → Int := fun i => [85, 83, 48, 51, 55, 56, 51, 51, 49, 48, 48, 53].getD i 0
def sACC1 : ByteArray := ⟨#[65, 67, 67, 49]⟩
def sACC2 : ByteArray := ⟨#[65, 67, 67, 50]⟩
def sEUR : ByteArray := ⟨#[69, 85, 82]⟩
def sDEUT : ByteArray := ⟨#[68, 69, 85, 84, 68, 69, 70, 70]⟩
def sBNP : ByteArray := ⟨#[66, 78, 80, 65, 70, 82, 80, 80]⟩
def sBNPX : ByteArray := ⟨#[66, 78, 80, 65, 70, 82, 80, 80, 88, 88, 88]⟩
def nD : Nt := ⟨⟨#[68, 49]⟩, ⟨#[]⟩, false, false, true, 738887, 738889, codeW, 10, sACC1, sBNPX, sACC2, 5000, sEUR, 0, none, 0, 0⟩
def nR : Nt := ⟨⟨#[82, 49]⟩, ⟨#[]⟩, false, true, true, 738887, 738889, codeW, 10, sACC2, sDEUT, sACC1, 5100, sEUR, 0, none, 0, 0⟩
def zsW : List ByteArray := [sDEUT, sBNP]
theorem load_isin (f : Nat → Int) (W : World) (g : Nat) (T : TypeId) (hg : W.heap[g]? = some (.cells (codeV f) T (0, 0))) : (loadVar 23 ⟨g, 0, none⟩).run Tryz.prog W = .ok (.agg (codeV f)) W := by
  have hd := code_desc
  cases hu : Tryz.prog.underlying 23 with
  | none => rw [hu] at hd; cases hd
  | some d =>
    rw [hu] at hd
    exact load_whole W g T _ _ (codeV f) d hu (by cases d <;> simp_all) code_size hg
set_option maxHeartbeats 4000000 in
theorem codeW_any (w : World) : Calls Tryz.prog 61 #[] w fun e w' => e = .returned (.agg (codeV codeW)) ∧ Below w.heap.size w w' := by
  have hl := Lib.hid (load_isin codeW (w.alloc (.cells (codeV codeW) 23)) w.heap.size _ (heap_alloc_new w _))
  have hb := Lib.hid (bl_alloc (bl_refl w) (.cells (codeV codeW) 23))
  have hB : Hid (∀ w, (Instr.build 23 #[(0, .int .u8 85), (1, .int .u8 83), (2, .int .u8 48), (3, .int .u8 51), (4, .int .u8 55), (5, .int .u8 56), (6, .int .u8 51), (7, .int .u8 51), (8, .int .u8 49), (9, .int .u8 48), (10, .int .u8 48), (11, .int .u8 53)]).run Tryz.prog w = .ok (.agg (codeV codeW)) w) := Lib.hid (fun w => by kernel_rfl)
  have hS := Lib.hid (fun (old : Array Value) (ho : old.size = 12) => storeVar_new Tryz.prog w 23 23 old (codeV codeW) code_size (by rw [ho]; rfl) (by simp [codeV, Value.oneCell']))
  generalize codeV codeW = CW at hl hb hB hS ⊢
  go_enter Tryz.func61, Tryz.ntmps61
  go_wp2_with (first | (refine wpList_build_known rfl 23 _ rfl _ _ (hB.out _) rfl ?_) | (refine wpList_store_plain rfl rfl 23 (.tmp 0) (.tmp 1) rfl ⟨w.heap.size, 0, none⟩ (.agg CW) rfl rfl (hS.out _ rfl) ?_))
  exact bodyPost_ret (results_cell rfl _ (a := ⟨w.heap.size, 0, none⟩) rfl hl.out) rfl ⟨rfl, hb.out⟩
theorem one_new {w : World} {Z : Array Value} {t : TypeId} {motive : World → Prop} (hz : Z.size = 28)
    (h : ∀ (W : World) (Z : Array Value), Z.size = 28 → Below w.heap.size w W → W.heap[w.heap.size]? = some (.cells Z t (0, 0)) → motive W) : motive (w.alloc (.cells Z t)) :=
  h _ Z hz (bl_alloc (bl_refl w) _) (heap_alloc_new w _)
theorem build_nD (w : World) : (Instr.build 26 (#[(0, .string ⟨#[68, 49]⟩)] ++ (if 4 = 3 then #[(3, .bool true)] else #[]) ++ #[(4, .bool true), (5, .int .i64 738887), (6, .int .i64 738889), (7, .agg (codeV codeW)), (8, .int .i64 10), (9, .string ⟨#[65, 67, 67, 49]⟩), (10, .string ⟨#[66, 78, 80, 65, 70, 82, 80, 80, 88, 88, 88]⟩), (11, .string ⟨#[65, 67, 67, 50]⟩), (12, .int .i64 5000), (13, .string ⟨#[69, 85, 82]⟩)])).run Tryz.prog w = .ok (.agg (noteC nD)) w := by kernel_rfl
theorem side_nD (w : World) : (Instr.build 28 ((if 0 = 1 then #[(0, .int .i64 1)] else #[]) ++ #[(1, .agg (noteC nD))])).run Tryz.prog w = .ok (.agg (sideC 0 nD)) w := by kernel_rfl
set_option maxHeartbeats 4000000 in
theorem deliver_any (w : World) : Calls Tryz.prog 25 #[] w fun e w' => e = .returned (.agg (sideC 0 nD)) ∧ Below w.heap.size w w' := by
  have hB := Lib.hid build_nD
  have hE := Lib.hid side_nD
  have hC := Lib.hid codeW_any
  have hL := Lib.hid (load_side 0 nD)
  have h1 := Lib.hid (sideC_one 0 nD)
  have hz := Lib.hid (sideC_size 0 nD)
  have hS := Lib.hid store_side
  generalize hCW : codeV codeW = CW at hB hC
  generalize hNX : noteC nD = NX at hB hE
  generalize hSC : sideC 0 nD = SC at hE hL h1 hz ⊢
  clear hCW hNX hSC
  go_enter Tryz.func25, Tryz.ntmps25
  go_upto_region 1 with fail
  refine one_new (motive := fun W => Code.wp _ _ _ _ W) rfl ?_
  intro W1 Z hz1 hb1 g1
  have HB1 := Lib.hid hb1
  have HG1 := Lib.hid g1
  have HZ1 := Lib.hid hz1
  clear hb1 g1 hz1
  go_wp2_with (first | (go_at_call 61; (with_reducible refine (hC.out _).mono ?_); rintro e w2 ⟨rfl, hb2⟩; have HB2 := Lib.hid (bl_then HB1.out hb2); have HG2 := Lib.hid (blk_none HG1.out (gb_below hb2)); clear hb2) | (refine wpList_build_known rfl 26 _ rfl _ _ (hB.out _) rfl ?_) | (refine wpList_build_known rfl 28 _ rfl _ _ (hE.out _) rfl ?_) | (refine wpList_store_plain rfl rfl 28 (.tmp 0) (.tmp 3) rfl ⟨w.heap.size, 0, none⟩ (.agg SC) rfl rfl (hS.out Z SC w2 w.heap.size _ HG2.out HZ1.out hz.out h1.out) ?_))
  exact bodyPost_ret (results_cell rfl _ (a := ⟨w.heap.size, 0, none⟩) rfl (hL.out _ _ _ (setRow_heap w2 _ _ _ _ _ HG2.out))) rfl ⟨rfl, bl_setRow HB2.out (Nat.le_refl _) _⟩
theorem build_nR (w : World) : (Instr.build 26 (#[(0, .string ⟨#[82, 49]⟩)] ++ (if 3 = 3 then #[(3, .bool true)] else #[]) ++ #[(4, .bool true), (5, .int .i64 738887), (6, .int .i64 738889), (7, .agg (codeV codeW)), (8, .int .i64 10), (9, .string ⟨#[65, 67, 67, 50]⟩), (10, .string ⟨#[68, 69, 85, 84, 68, 69, 70, 70]⟩), (11, .string ⟨#[65, 67, 67, 49]⟩), (12, .int .i64 5100), (13, .string ⟨#[69, 85, 82]⟩)])).run Tryz.prog w = .ok (.agg (noteC nR)) w := by kernel_rfl
theorem side_nR (w : World) : (Instr.build 28 ((if 1 = 1 then #[(0, .int .i64 1)] else #[]) ++ #[(1, .agg (noteC nR))])).run Tryz.prog w = .ok (.agg (sideC 1 nR)) w := by kernel_rfl
set_option maxHeartbeats 4000000 in
theorem receive_any (w : World) : Calls Tryz.prog 26 #[] w fun e w' => e = .returned (.agg (sideC 1 nR)) ∧ Below w.heap.size w w' := by
  have hB := Lib.hid build_nR
  have hE := Lib.hid side_nR
  have hC := Lib.hid codeW_any
  have hL := Lib.hid (load_side 1 nR)
  have h1 := Lib.hid (sideC_one 1 nR)
  have hz := Lib.hid (sideC_size 1 nR)
  have hS := Lib.hid store_side
  generalize hCW : codeV codeW = CW at hB hC
  generalize hNX : noteC nR = NX at hB hE
  generalize hSC : sideC 1 nR = SC at hE hL h1 hz ⊢
  clear hCW hNX hSC
  go_enter Tryz.func26, Tryz.ntmps26
  go_upto_region 1 with fail
  refine one_new (motive := fun W => Code.wp _ _ _ _ W) rfl ?_
  intro W1 Z hz1 hb1 g1
  have HB1 := Lib.hid hb1
  have HG1 := Lib.hid g1
  have HZ1 := Lib.hid hz1
  clear hb1 g1 hz1
  go_wp2_with (first | (go_at_call 61; (with_reducible refine (hC.out _).mono ?_); rintro e w2 ⟨rfl, hb2⟩; have HB2 := Lib.hid (bl_then HB1.out hb2); have HG2 := Lib.hid (blk_none HG1.out (gb_below hb2)); clear hb2) | (refine wpList_build_known rfl 26 _ rfl _ _ (hB.out _) rfl ?_) | (refine wpList_build_known rfl 28 _ rfl _ _ (hE.out _) rfl ?_) | (refine wpList_store_plain rfl rfl 28 (.tmp 0) (.tmp 3) rfl ⟨w.heap.size, 0, none⟩ (.agg SC) rfl rfl (hS.out Z SC w2 w.heap.size _ HG2.out HZ1.out hz.out h1.out) ?_))
  exact bodyPost_ret (results_cell rfl _ (a := ⟨w.heap.size, 0, none⟩) rfl (hL.out _ _ _ (setRow_heap w2 _ _ _ _ _ HG2.out))) rfl ⟨rfl, bl_setRow HB2.out (Nat.le_refl _) _⟩
end Go.Proofs.YtphabkaiheplpaaGreatDoor
