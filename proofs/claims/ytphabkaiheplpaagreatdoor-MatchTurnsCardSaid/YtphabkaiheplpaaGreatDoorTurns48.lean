/- Joined texts of this proof: LawTurns. -/
import Derived.Outline
import Derived.Test.YtphabkaiheplpaaGreatDoorTurns47
/- custodylaw22.MatchTurns answers true for whatever sides, BICs, tolerances and notice. -/
set_option linter.unusedVariables false
set_option linter.unusedSimpArgs false
set_option maxRecDepth 100000
namespace Go.Proofs.YtphabkaiheplpaaGreatDoor
open Go.RowKit Go.Shelf

set_option maxHeartbeats 8000000 in
set_option maxRecDepth 1000000 in
theorem law_MatchTurns (w : World) (hpw : PowT w) (p : Int) (x : Nt) (lx : List Lk) (q : Int) (y : Nt) (ly : List Lk) (A : Option Addr) (n c : Nat) (zs : List ByteArray) (tol more : Int) (z : Nt)
    (hp : I64 p) (hq : I64 q) (hx : x.wf) (hy : y.wf) (hz : z.wf) (hrx : RdL w x.la x.ln lx) (hry : RdL w y.la y.ln ly) (okx : OkL lx) (oky : OkL ly) (hnx : x.ln * 24 ≤ 140737488351232) (hny : y.ln * 24 ≤ 140737488351232)
    (hr : RdT w A n zs) (hsh : Short zs) (hn : n * 16 ≤ 140737488351232) (ht : I64 tol) (hm : I64 more) :
    Calls Tryz.prog 3 #[.agg (sideC p x), .agg (sideC q y), .slice A n c, .int .i64 tol, .int .i64 more, .agg (noteC z)] w fun e w' => e = .returned (.bool true) ∧ Below w.heap.size w w' := by
  have hn1 : n ≤ 140737488351232 := by omega
  have hzl : zs.length = n := hr.1
  obtain ⟨W0, hW0⟩ : ∃ W0, W0 = ((w.alloc (.cells (sideC p x) 28)).alloc (.cells (sideC q y) 28)).alloc (.cells (noteC z) 26) := ⟨_, rfl⟩
  have hb0 : Below w.heap.size w W0 := by rw [hW0]; exact bl_alloc (bl_alloc (bl_alloc (bl_refl w) _) _) _
  have g0 : W0.heap[w.heap.size]? = some (.cells (sideC p x) 28 (0, 0)) := by rw [hW0, heap_alloc_old _ _ (by simp; omega)]; exact heap_alloc2_old w _ _
  have g1 : W0.heap[w.heap.size + 1]? = some (.cells (sideC q y) 28 (0, 0)) := by rw [hW0, heap_alloc_old _ _ (by simp)]; exact heap_alloc2_new w _ _
  have g2 : W0.heap[w.heap.size + 2]? = some (.cells (noteC z) 26 (0, 0)) := by rw [hW0]; exact heap_at _ _ _ (by simp)
  have HC : Hid (TurnC W0 w.heap.size (w.heap.size + 1) A n c zs tol p q x y lx ly) := Lib.hid ⟨hp, hq, hx, hy, hrx.below hb0, hry.below hb0, okx, oky, hnx, hny, hsh, ht, hpw.below hb0, by omega, hr.below hb0, hn, g0, g1⟩
  have HB0 := Lib.hid hb0
  have HLX := Lib.hid (fun W (h : Below W0.heap.size W0 W) => load_side p x W w.heap.size _ (blk_none g0 (gb_below h)))
  have HLY := Lib.hid (fun W (h : Below W0.heap.size W0 W) => load_side q y W (w.heap.size + 1) _ (blk_none g1 (gb_below h)))
  have HF1 := Lib.hid (fun W (h : Below W0.heap.size W0 W) (tol : Int) (ht : I64 tol) => fit_any p q x y A n c zs tol W hp hq hx hy ht (hr.below (bl_then hb0 h)) hsh hn1 (hpw.below (bl_then hb0 h)))
  have HT := Lib.hid ht
  have HM := Lib.hid hm
  have HZ := Lib.hid hz
  have G2 := Lib.hid g2
  clear hb0 g0 g1 g2 hp hq hx hy hz hrx hry okx oky hnx hny hr hsh hn ht hm hn1 hzl hpw
  have hSX := sideV_agg p x
  have hSY := sideV_agg q y
  rw [hSX, hSY] at HF1
  clear hSX hSY
  obtain ⟨SX, hgX⟩ : ∃ S, S = sideC p x := ⟨_, rfl⟩
  obtain ⟨SY, hgY⟩ : ∃ S, S = sideC q y := ⟨_, rfl⟩
  obtain ⟨NZ, hgZ⟩ : ∃ S, S = noteC z := ⟨_, rfl⟩
  rw [← hgX, ← hgY, ← hgZ] at hW0 ⊢
  rw [← hgX] at HLX HF1
  rw [← hgY] at HLY HF1
  clear hgX hgY hgZ
  go_enter Tryz.func3, Tryz.ntmps3
  go_upto_region 1 with fail
  rw [← hW0]
  clear hW0
  have b00 : Below W0.heap.size W0 W0 := bl_refl _
  have LX1 := Lib.hid (HLX.out W0 b00)
  have LY1 := Lib.hid (HLY.out W0 b00)
  have F1 := Lib.hid (HF1.out W0 b00 tol HT.out)
  clear b00
  go_upto_region 2 with (first | (refine wpList_load_known rfl 28 (.tmp 6) rfl ⟨w.heap.size, 0, none⟩ (.agg SX) rfl LX1.out ?_) | (refine wpList_load_known rfl 28 (.tmp 7) rfl ⟨w.heap.size + 1, 0, none⟩ (.agg SY) rfl LY1.out ?_) | (go_at_call 7; (with_reducible refine F1.out.mono ?_); rintro e w1 ⟨rfl, hb⟩; have HB1 := Lib.hid hb; clear hb))
  rename_i KA hA
  have HKA := Lib.hid hA
  clear hA
  clear LX1 LY1 F1
  have LX2 := Lib.hid (HLX.out w1 HB1.out)
  have LY2 := Lib.hid (HLY.out w1 HB1.out)
  have F2 := Lib.hid (HF1.out w1 HB1.out more HM.out)
  go_wp2_with (first | (refine wpList_load_known rfl 28 (.tmp 6) rfl ⟨w.heap.size, 0, none⟩ (.agg SX) rfl LX2.out ?_) | (refine wpList_load_known rfl 28 (.tmp 7) rfl ⟨w.heap.size + 1, 0, none⟩ (.agg SY) rfl LY2.out ?_) | (go_at_call 7; (with_reducible refine F2.out.mono ?_); rintro e w2 ⟨rfl, hb⟩; have HB2 := Lib.hid (bl_then HB1.out hb); clear hb))
  refine HKA.out _ _ ?_
  exact turns3 _ _ _ _ _ _ _ _ _ _ _ _ _ _ _ _ _ _ _ _ _ _ _ _ _ _ _ _ _ _ _ _ _ _ _ _ _ _ _ _ _ _ _ _ _ _ _ _ _ _ _ _ _ _ _ _ _ _ _ _ _ _ _ _ _ _ _ _ _ _ _ _ _ _ _ _ _ _ _ _ _ _ _ _ _ _ _ _ _ _ _ _ _ _ _ _ _ _ _ _ _ _ _ _ _ _ _ _ _ _ _ _ _ _ _ _ _ _ _ _ _ _ _ _ _ _ _ _ _ _ _ _ _ _ _ _ _ _ _ _ _ _ _ _ _ _ _ _ _ _ _ _ _ _ _ _ _ _ _ _ _ _ _ _ _ _ _ _ _ _ _ _ _ _ _ _ _ _ _ _ _ _ _ _ _ _ _ _ _ _ _ _ _ _ _ _ _ _ _ _ _ _ _ _ _ _ _ _ _ _ _ _ _ _ _ _ _ _ _ _ _ _ _ _ _ _ _ _ _ _ _ _ _ _ _ _ _ _ _ _ _ _ _ _ _ _ _ _ _ _ _ _ _ _ _ _ HC.out rfl rfl HB2.out HZ.out G2.out (fun W' h => ⟨rfl, bl_then HB0.out h⟩)
/-- The walk, in the order of a row's letters and facts. -/
theorem rowlaw_MatchTurns (w : World) (hpw : PowT w) (p : Int) (x : Nt) (lx : List Lk) (q : Int) (y : Nt) (ly : List Lk) (A : Option Addr) (n c : Nat) (zs : List ByteArray) (tol more : Int) (z : Nt) (lz : List Lk)
    (hp : I64 p) (hx : x.wf) (hrx : RdL w x.la x.ln lx) (okx : OkL lx) (hnx : x.ln * 24 ≤ 140737488351232) (hq : I64 q) (hy : y.wf) (hry : RdL w y.la y.ln ly) (oky : OkL ly) (hny : y.ln * 24 ≤ 140737488351232)
    (hr : RdT w A n zs) (hsh : Short zs) (hn : n * 16 ≤ 140737488351232) (ht : I64 tol) (hm : I64 more) (hz : z.wf) (hrz : RdL w z.la z.ln lz) (okz : OkL lz) (hnz : z.ln * 24 ≤ 140737488351232) :
    Calls Tryz.prog 3 #[sideV p x, sideV q y, .slice A n c, .int .i64 tol, .int .i64 more, .agg (noteC z)] w fun e w' => e = .returned (.bool true) ∧ Below w.heap.size w w' :=
  law_MatchTurns w hpw p x lx q y ly A n c zs tol more z hp hq hx hy hz hrx hry okx oky hnx hny hr hsh hn ht hm
end Go.Proofs.YtphabkaiheplpaaGreatDoor
