/- Joined texts of this proof: BkCo. -/
import Derived.Outline
import Derived.Test.YtphabkaiheplpaaGreatDoorTurns11
import Derived.Test.YtphabkaiheplpaaGreatDoorTurns18
/- match.copied: a side with links of its own. -/
set_option linter.unusedVariables false
set_option linter.unusedSimpArgs false
set_option maxRecDepth 100000
namespace Go.Proofs.YtphabkaiheplpaaGreatDoor
open Go.RowKit Go.Shelf

theorem sideC_one (p : Int) (x : Nt) : (sideC p x).all (·.oneCell') = true := by simp [sideC, sideV, Value.oneCell']
theorem sideC_size (p : Int) (x : Nt) : (sideC p x).size = 28 := rfl
theorem sideC_links (p : Int) (x : Nt) (la : Option Addr) (lc : Nat) : (sideC p x).setIfInBounds 27 (.slice la x.ln lc) = sideC p { x with la := la, lc := lc } := by kernel_rfl
theorem store_side (C D : Array Value) (W : World) (g : Nat) (T : TypeId) (hg : W.heap[g]? = some (.cells C T (0, 0))) (hc : C.size = 28) (hd : D.size = 28) (h1 : D.all (·.oneCell') = true) : (storeVar 28 ⟨g, 0, none⟩ (.agg D)).run Tryz.prog W = .ok () (W.setRow g D) :=
  run_storeVar_row W g T _ C D hg (by rw [hd]; exact side_size) (by rw [hc, hd]) h1
theorem two_new {w : World} {C Z : Array Value} {t : TypeId} {motive : World → Prop} (hz : Z.size = 28)
    (h : ∀ (W : World) (Z : Array Value), Z.size = 28 → Below w.heap.size w W → W.heap[w.heap.size]? = some (.cells C t (0, 0)) → W.heap[w.heap.size + 1]? = some (.cells Z t (0, 0)) → motive W) : motive ((w.alloc (.cells C t)).alloc (.cells Z t)) :=
  h _ Z hz (bl_alloc (bl_alloc (bl_refl w) _) _) (heap_alloc2_old w _ _) (heap_alloc2_new w _ _)
theorem gb_setRow (W : World) (g : Nat) (cs : Array Value) : W.grownBy (W.setRow g cs) (some g) := ⟨rfl, rfl, rfl, by simp, fun i _ hne => setRow_other W g i cs (fun e => hne (by rw [e]))⟩
theorem own_low {w : World} {b base n : Nat} {e : TypeId} {size : Nat} {v : Value} {xs : List Value} (h : w.ownsRow b e size v n xs) (hb : base ≤ b) : w.ownsRow base e size v n xs := by
  rcases h with ⟨h0, h1 | ⟨g, cap, cur, h1, h2, h3⟩⟩
  · exact ⟨h0, .inl h1⟩
  · exact ⟨h0, .inr ⟨g, cap, cur, h1, by omega, h3⟩⟩
set_option maxHeartbeats 8000000 in
set_option maxRecDepth 1000000 in
theorem copied_any (p : Int) (x : Nt) (lx : List Lk) (w : World) (hr : RdL w x.la x.ln lx) (hn : x.ln * 24 ≤ 140737488351232) :
    Calls Tryz.prog 32 #[.agg (sideC p x)] w fun e w' => ∃ (la' : Option Addr) (lc' : Nat), e = .returned (.agg (sideC p { x with la := la', lc := lc' })) ∧ w'.ownsRow w.heap.size 112 2 (.slice la' x.ln lc') x.ln (lks lx) ∧ Below w.heap.size w w' := by
  have k27 := Lib.hid (show (sideC p x)[27]? = some (.slice x.la x.ln x.lc) from rfl)
  have hCX := Lib.hid (show (sideC p x).size = 28 from rfl)
  have HS := Lib.hid (fun la lc => sideC_links p x la lc)
  have HRD := Lib.hid hr
  have HNN := Lib.hid hn
  have HLD := Lib.hid (fun (la : Option Addr) (lc : Nat) => load_side p { x with la := la, lc := lc })
  have HONE := Lib.hid (fun (la : Option Addr) (lc : Nat) => sideC_one p { x with la := la, lc := lc })
  have HSZ := Lib.hid (fun (la : Option Addr) (lc : Nat) => sideC_size p { x with la := la, lc := lc })
  generalize hE : (fun (la : Option Addr) (lc : Nat) => sideC p { x with la := la, lc := lc }) = E
  replace hE := fun la lc => congrFun (congrFun hE la) lc
  simp only [hE] at *
  clear hr hn hE
  generalize sideC p x = CX at *
  go_enter Tryz.func32, Tryz.ntmps32
  go_upto_region 1 with fail
  refine two_new (motive := fun W => Code.wp _ _ _ _ W) rfl ?_
  intro W Z hz hb g1 g2
  have HB := Lib.hid hb
  have G1 := Lib.hid g1
  have G2 := Lib.hid g2
  have HZ := Lib.hid hz
  have c27 : W.cell? ⟨w.heap.size, 27, none⟩ = some (.slice x.la x.ln x.lc) := (cell_of_row W _ 27 _ _ _ g1).trans k27.out
  have HCL := Lib.hid (cloneLk x.la x.ln x.lc lx W (HRD.out.below hb) HNN.out)
  clear hb g1 g2 hz
  go_upto_region 2 with (go_at_call 66; (with_reducible refine HCL.out.mono ?_); rintro e w3 ⟨v', rfl, hown, hb3⟩; obtain ⟨la', lc', rfl⟩ := ow_slice hown; have HOWN := Lib.hid hown; have HB3 := Lib.hid hb3; have g3 := blk_none G1.out (gb_below hb3); have c3 : w3.cell? ⟨w.heap.size, 27, none⟩ = some (.slice x.la x.ln x.lc) := (cell_of_row w3 _ 27 _ _ _ g3).trans k27.out; have f3 : w3.frozen? ⟨w.heap.size, 27, none⟩ = false := row_free g3 27; have G3 := Lib.hid g3; have H3 := Lib.hid (blk_none G2.out (gb_below hb3)); clear hown hb3 g3)
  have hz : w.heap.size + 1 < W.heap.size := (Array.getElem?_eq_some_iff.1 G2.out).1
  have G4 : Hid ((w3.setCell ⟨w.heap.size, 27, none⟩ (.slice la' x.ln lc')).heap[w.heap.size]? = some (.cells (E la' lc') 28 (0, 0))) := Lib.hid (by rw [← HS.out la' lc']; exact heap_setCell_same w3 _ 27 _ _ _ G3.out)
  have H4 := Lib.hid (blk_ne H3.out (show w.heap.size + 1 ≠ w.heap.size by omega) (gb_cell w3 ⟨w.heap.size, 27, none⟩ (.slice la' x.ln lc')))
  have O4 := Lib.hid (ow_other HOWN.out G3.out (by decide) (gb_cell w3 ⟨w.heap.size, 27, none⟩ (.slice la' x.ln lc')))
  have B4 : Hid (Below w.heap.size w (w3.setCell ⟨w.heap.size, 27, none⟩ (.slice la' x.ln lc'))) := Lib.hid ((bl_then HB.out HB3.out).setCell (Nat.le_refl _) _)
  clear c3 f3 G3 H3 HOWN HB HB3 HCL G1 G2 c27
  generalize w3.setCell ⟨w.heap.size, 27, none⟩ (.slice la' x.ln lc') = w4 at G4 H4 O4 B4 ⊢
  have LD := Lib.hid (HLD.out la' lc' w4 w.heap.size _ G4.out)
  have ST := Lib.hid (store_side Z (E la' lc') w4 (w.heap.size + 1) _ H4.out HZ.out (HSZ.out la' lc') (HONE.out la' lc'))
  go_wp2_with (first | (refine wpList_load_known rfl 28 (.tmp 1) rfl ⟨w.heap.size, 0, none⟩ (.agg (E la' lc')) rfl LD.out ?_) | (refine wpList_store_plain rfl rfl 28 (.tmp 2) (.tmp 9) rfl ⟨w.heap.size + 1, 0, none⟩ (.agg (E la' lc')) rfl rfl ST.out ?_))
  have LE := Lib.hid (HLD.out la' lc' (w4.setRow (w.heap.size + 1) (E la' lc')) (w.heap.size + 1) 28 (setRow_heap w4 _ _ _ _ _ H4.out))
  refine bodyPost_ret (results_cell rfl _ (a := ⟨w.heap.size + 1, 0, none⟩) rfl LE.out) rfl ⟨la', lc', rfl, ?_, ?_⟩
  · exact own_low (ow_other O4.out H4.out (by decide) (gb_setRow w4 _ _)) (by omega)
  · exact bl_setRow B4.out (by omega) _
end Go.Proofs.YtphabkaiheplpaaGreatDoor
