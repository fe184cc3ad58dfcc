/- The law MatchFit by its walk. -/
import Derived.Test.YtccnfklemalmeaaDoorMFitLaw
import Derived.Test.YtccnfklemalmeaaDoorLentL
set_option linter.unusedVariables false
set_option linter.unusedSimpArgs false
set_option maxRecDepth 100000
namespace Go.Proofs.YtccnfklemalmeaaDoor
open Go.RowKit Go.Shelf

theorem sideC_one (p : Int) (x : Nt) : (sideC p x).all (·.oneCell') = true := by simp [sideC, sideV, Value.oneCell']
theorem sideC_size (p : Int) (x : Nt) : (sideC p x).size = 28 := rfl
theorem store_side_new (p : Int) (x : Nt) (W : World) (n : Nat) (hn : n = W.heap.size) (old : Array Value) (ho : old.size = 28) (T : TypeId) : (storeVar 59 ⟨n, 0, none⟩ (.agg (sideC p x))).run Tryd.prog (W.alloc (.cells old T)) = .ok () (W.alloc (.cells (sideC p x) T)) := by
  subst hn
  exact storeVar_new Tryd.prog W T _ old (sideC p x) side_size (by rw [ho]; rfl) (sideC_one p x)
/-- A notice with other links. -/
def Nt.lent (x : Nt) (A : Option Addr) (c : Nat) : Nt := { x with la := A, lc := c }
theorem lent_wf {x : Nt} (h : x.wf) (A : Option Addr) (c : Nat) : (x.lent A c).wf := ⟨h.trade, h.settle, h.code, h.qty, h.account, h.agent, h.other, h.amount, h.currency⟩
theorem lent_fit (p q : Int) (x y : Nt) (A B : Option Addr) (c d : Nat) (zs : List ByteArray) (tol : Int) : fitE p q (x.lent A c) (y.lent B d) zs tol = fitE p q x y zs tol := rfl
theorem lent_cells (p : Int) (x : Nt) (A : Option Addr) (c : Nat) : (sideC p x).setIfInBounds 27 (.slice A x.ln c) = sideC p (x.lent A c) := by kernel_rfl
theorem ow_set {w : World} {base n : Nat} {e : TypeId} {size : Nat} {v : Value} {xs : List Value} (h : w.ownsRow base e size v n xs) (a : Addr) (u : Value) (hb : a.block < base) : (w.setCell a u).ownsRow base e size v n xs := by
  refine h.kept (row := some a.block) ⟨rfl, rfl, rfl, by simp [World.setCell], fun i hi hne => Below.heap_setCell _ _ _ _ (fun e => hne (by rw [e]))⟩ ?_
  by_cases hv : v.ownBlock = none
  · left; exact hv
  · right
    intro hc
    have := ow_base h _ hc
    omega
theorem LentK.set {w : World} {B : Nat} {v : Value} {zs : List Lk} (h : LentK w B v zs) (a : Addr) (u : Value) (hb : a.block < B) : LentK (w.setCell a u) B v zs := by
  obtain ⟨g, cap, rfl, hB, hcap, hown⟩ := h
  exact ⟨g, cap, rfl, hB, hcap, ow_set hown a u hb⟩
theorem LentK.setAt {w0 w : World} {B : Nat} {v : Value} {zs : List Lk} (h0 : LentK w0 B v zs) (h : LentK w B v zs) (a : Addr) (u : Value) (ha : w0.heap.size ≤ a.block) : LentK (w.setCell a u) B v zs := by
  obtain ⟨g, cap, rfl, hB, hcap, hown⟩ := h
  obtain ⟨g0, cap0, e0, _, _, hown0⟩ := h0
  injection e0 with e1 e2 e3
  have e4 : g = g0 := by injection e1 with e5; injection e5
  subst e4
  subst e3
  have hg : g < w0.heap.size := by
    rcases hown0.2 with ⟨h1, _⟩ | ⟨g', cap', cur, he, _, hh, _⟩
    · cases h1
    · injection he with e5
      have e6 : g = g' := by injection e5 with e7; injection e7
      rw [e6]
      rw [Array.getElem?_eq_some_iff] at hh
      exact hh.1
  refine ⟨g, cap, rfl, hB, hcap, ?_⟩
  refine hown.kept (row := some a.block) ⟨rfl, rfl, rfl, by simp [World.setCell], fun i hi hne => Below.heap_setCell _ _ _ _ (fun e => hne (by rw [e]))⟩ ?_
  right
  intro hc
  have : g = a.block := by simpa [Value.ownBlock] using hc
  omega
/-- Both sides as they came in lie in memory. -/
structure LwI (w W : World) (C D : Array Value) : Prop where
  low : Below w.heap.size w W
  size : w.heap.size + 1 < W.heap.size
  one : W.heap[w.heap.size]? = some (.cells C 59 (0, 0))
  two : W.heap[w.heap.size + 1]? = some (.cells D 59 (0, 0))
theorem LwI.grow {w W W1 : World} {C D : Array Value} (h : LwI w W C D) (hb : Below W.heap.size W W1) : LwI w W1 C D := by
  have hs := h.size
  exact ⟨bl_then h.low hb, Nat.lt_of_lt_of_le hs hb.size, by rw [hb.block _ (by omega)]; exact h.one, by rw [hb.block _ (by omega)]; exact h.two⟩
theorem LwI.set {w W : World} {C D : Array Value} (h : LwI w W C D) (a : Addr) (u : Value) (hb : w.heap.size + 1 < a.block) : LwI w (W.setCell a u) C D := by
  have e : ∀ i, i ≠ a.block → (W.setCell a u).heap[i]? = W.heap[i]? := fun i hi => Below.heap_setCell _ _ _ _ hi
  exact ⟨bl_set h.low (by omega) u, by simpa [World.setCell] using h.size, by rw [e _ (by omega)]; exact h.one, by rw [e _ (by omega)]; exact h.two⟩
set_option maxHeartbeats 8000000 in
theorem law_MatchFit (p q : Int) (x y : Nt) (A : Option Addr) (n c : Nat) (zs : List ByteArray) (tol : Int) (lx ly : List Lk) (w : World) (hp : I64 p) (hq : I64 q) (hx : x.wf) (hy : y.wf) (ht : I64 tol) (hr : RdT w A n zs) (hsh : Short zs) (hn : n * 16 ≤ 140737488351232) (hpw : PowT w)
    (hlx : RdL w x.la x.ln lx) (hly : RdL w y.la y.ln ly) (okx : OkL lx) (oky : OkL ly) (hnx : x.ln * 24 ≤ 140737488351232) (hny : y.ln * 24 ≤ 140737488351232) :
    Calls Tryd.prog 5 #[sideV p x, sideV q y, .slice A n c, .int .i64 tol] w fun e w' => e = .returned (.bool true) ∧ Below w.heap.size w w' := by
  have hn1 : n ≤ 140737488351232 := by omega
  rw [sideV_agg, sideV_agg]
  have I0 : Hid (LwI w ((w.alloc (.cells (sideC p x) 59)).alloc (.cells (sideC q y) 59)) (sideC p x) (sideC q y)) := Lib.hid ⟨bl_alloc (bl_alloc (bl_refl w) _) _, by simp, heap_alloc2_old w _ _, heap_alloc2_new w _ _⟩
  have RF := Lib.hid (fun W (hB : Below w.heap.size w W) => refFit_any p q x y A n c zs tol W hp hq hx hy ht (hr.below hB) hsh hn1)
  have LX := Lib.hid (fun W h => load_side p x W w.heap.size 59 h)
  have LY := Lib.hid (fun W h => load_side q y W (w.heap.size + 1) 59 h)
  rw [sideV_agg, sideV_agg] at RF
  have SX := Lib.hid (store_side_new p x)
  have SY := Lib.hid (store_side_new q y)
  have kx := Lib.hid (show (sideC p x)[27]? = some (.slice x.la x.ln x.lc) from rfl)
  have ky := Lib.hid (show (sideC q y)[27]? = some (.slice y.la y.ln y.lc) from rfl)
  have ex := Lib.hid (fun A1 c1 => lent_cells p x A1 c1)
  have ey := Lib.hid (fun A1 c1 => lent_cells q y A1 c1)
  have L1 := Lib.hid (LX.out _ I0.out.one)
  have L2 := Lib.hid (LY.out _ I0.out.two)
  have RF1 := Lib.hid (RF.out _ I0.out.low)
  generalize hCX : sideC p x = CX at *
  generalize hCY : sideC q y = CY at *
  generalize hFE : fitE p q x y zs tol = R at *
  have HFE := Lib.hid hFE
  clear hCX hCY hFE
  go_enter Tryd.func5, Tryd.ntmps5
  go_upto_region 1 with fail
  go_upto_region 2 with (first | (refine wpList_load_known rfl 59 (.tmp 4) rfl _ _ rfl L1.out ?_) | (refine wpList_load_known rfl 59 (.tmp 5) rfl _ _ rfl L2.out ?_) | (go_at_call 27; (with_reducible refine RF1.out.mono ?_); rintro e w1 ⟨rfl, hb1⟩; have I1 := Lib.hid (I0.out.grow hb1); clear hb1))
  clear RF1 L1 L2 I0 RF
  have L1 := Lib.hid (LX.out _ I1.out.one)
  have S1 := Lib.hid (SX.out w1 w1.heap.size rfl)
  go_upto_region 3 with (first | (refine wpList_load_known rfl 59 (.tmp 4) rfl _ _ rfl L1.out ?_) | (refine wpList_store_plain rfl rfl 59 (.tmp 11) (.tmp 24) rfl ⟨w1.heap.size, 0, none⟩ (.agg CX) (by simp [go_sem, Act.eval]) (by simp [go_sem, Act.eval]) (S1.out _ rfl _) ?_))
  clear L1 S1
  have I2 := Lib.hid (I1.out.grow (bl_alloc (bl_refl w1) (.cells CX 59)))
  have R1 := Lib.hid (heap_alloc_new w1 (.cells CX 59))
  have o1 : w.heap.size + 1 < w1.heap.size := I1.out.size
  have o2 : w1.heap.size < (w1.alloc (.cells CX 59)).heap.size := by simp
  clear I1
  generalize w1.alloc (.cells CX 59) = W2 at I2 R1 o2 ⊢
  generalize w1.heap.size = b1 at R1 o1 o2 ⊢
  have r27 : W2.cell? ⟨w.heap.size, 27, none⟩ = some (.slice x.la x.ln x.lc) := by rw [cell_of_row _ _ _ _ _ _ I2.out.one]; exact kx.out
  have q27 : W2.cell? ⟨b1, 27, none⟩ = some (.slice x.la x.ln x.lc) := by rw [cell_of_row _ _ _ _ _ _ R1.out]; exact kx.out
  have LL1 := Lib.hid (lentLinks x.la x.ln x.lc lx W2 (hlx.below I2.out.low) hnx)
  go_upto_region 4 with (go_at_call 28; (with_reducible refine LL1.out.mono ?_); rintro e w2 ⟨v1, rfl, hK1, hb2⟩; obtain ⟨A1, c1, hv1, hrdx, _⟩ := hK1.rd; rw [hlx.1] at hv1; subst hv1; clear hrdx; have c27 := bl_cell hb2 q27; have f27 : w2.frozen? ⟨b1, 27, none⟩ = false := row_free ((hb2.block b1 o2).trans R1.out) 27; have I3 := Lib.hid (I2.out.grow hb2); have R3 := Lib.hid ((hb2.block b1 o2).trans R1.out); have KL1 := Lib.hid hK1; clear hK1 hb2 LL1 r27 q27)
  clear c27 f27
  have I4 := Lib.hid (I3.out.set ⟨b1, 27, none⟩ (.slice A1 x.ln c1) o1)
  have KL2 := Lib.hid (KL1.out.set ⟨b1, 27, none⟩ (.slice A1 x.ln c1) o2)
  have R4 : Hid ((w2.setCell ⟨b1, 27, none⟩ (.slice A1 x.ln c1)).heap[b1]? = some (.cells (sideC p (x.lent A1 c1)) 59 (0, 0))) := Lib.hid (by rw [heap_setCell_same w2 b1 27 CX _ _ R3.out, ex.out])
  clear I2 I3 KL1 R1 R3
  have o3 : b1 < (w2.setCell ⟨b1, 27, none⟩ (.slice A1 x.ln c1)).heap.size := by
    have h := R4.out
    rw [Array.getElem?_eq_some_iff] at h
    exact h.1
  generalize w2.setCell ⟨b1, 27, none⟩ (.slice A1 x.ln c1) = W3 at I4 KL2 R4 o3 ⊢
  generalize W2.heap.size = B1 at KL2 o2 ⊢
  have L2 := Lib.hid (LY.out _ I4.out.two)
  have S2 := Lib.hid (SY.out W3 W3.heap.size rfl)
  go_upto_region 5 with (first | (refine wpList_load_known rfl 59 (.tmp 5) rfl _ _ rfl L2.out ?_) | (refine wpList_store_plain rfl rfl 59 (.tmp 12) (.tmp 31) rfl ⟨W3.heap.size, 0, none⟩ (.agg CY) (by simp [go_sem, Act.eval]) (by simp [go_sem, Act.eval]) (S2.out _ rfl _) ?_))
  clear L2 S2
  have I5 := Lib.hid (I4.out.grow (bl_alloc (bl_refl W3) (.cells CY 59)))
  have R5 := Lib.hid (heap_alloc_new W3 (.cells CY 59))
  have Q5 := Lib.hid ((heap_alloc_old W3 (.cells CY 59) o3).trans R4.out)
  have KL3 := Lib.hid (KL2.out.below (bl_alloc (bl_refl W3) (.cells CY 59)))
  have o4 : w.heap.size + 1 < W3.heap.size := I4.out.size
  have o5 : W3.heap.size < (W3.alloc (.cells CY 59)).heap.size := by simp
  have OB := Lib.hid (fun (W : World) (u : Value) (h : LentK W B1 (.slice A1 x.ln c1) lx) => KL2.out.setAt h ⟨W3.heap.size, 27, none⟩ u (Nat.le_refl _))
  clear I4 R4 KL2
  generalize W3.alloc (.cells CY 59) = W4 at I5 R5 Q5 KL3 o5 ⊢
  generalize W3.heap.size = b2 at R5 o3 o4 o5 OB ⊢
  have r27 : W4.cell? ⟨w.heap.size + 1, 27, none⟩ = some (.slice y.la y.ln y.lc) := by rw [cell_of_row _ _ _ _ _ _ I5.out.two]; exact ky.out
  have q27 : W4.cell? ⟨b2, 27, none⟩ = some (.slice y.la y.ln y.lc) := by rw [cell_of_row _ _ _ _ _ _ R5.out]; exact ky.out
  have LL2 := Lib.hid (lentLinks y.la y.ln y.lc ly W4 (hly.below I5.out.low) hny)
  go_upto_region 6 with (go_at_call 28; (with_reducible refine LL2.out.mono ?_); rintro e w4 ⟨v2, rfl, hK2, hb4⟩; obtain ⟨A2, c2, hv2, hrdy, _⟩ := hK2.rd; rw [hly.1] at hv2; subst hv2; clear hrdy; have c27 := bl_cell hb4 q27; have f27 : w4.frozen? ⟨b2, 27, none⟩ = false := row_free ((hb4.block b2 o5).trans R5.out) 27; have I6 := Lib.hid (I5.out.grow hb4); have R6 := Lib.hid ((hb4.block b2 o5).trans R5.out); have Q6 := Lib.hid ((hb4.block b1 (Nat.lt_trans o3 o5)).trans Q5.out); have KL4 := Lib.hid (KL3.out.below hb4); have KM1 := Lib.hid hK2; clear hK2 hb4 LL2 r27 q27)
  clear c27 f27
  have I7 := Lib.hid (I6.out.set ⟨b2, 27, none⟩ (.slice A2 y.ln c2) o4)
  have KL5 := Lib.hid (OB.out w4 (.slice A2 y.ln c2) KL4.out)
  have KM2 := Lib.hid (KM1.out.set ⟨b2, 27, none⟩ (.slice A2 y.ln c2) o5)
  have R7 : Hid ((w4.setCell ⟨b2, 27, none⟩ (.slice A2 y.ln c2)).heap[b2]? = some (.cells (sideC q (y.lent A2 c2)) 59 (0, 0))) := Lib.hid (by rw [heap_setCell_same w4 b2 27 CY _ _ R6.out, ey.out])
  have Q7 : Hid ((w4.setCell ⟨b2, 27, none⟩ (.slice A2 y.ln c2)).heap[b1]? = some (.cells (sideC p (x.lent A1 c1)) 59 (0, 0))) := Lib.hid ((Below.heap_setCell _ _ _ _ (by show b1 ≠ b2; omega)).trans Q6.out)
  have o7 : b2 < (w4.setCell ⟨b2, 27, none⟩ (.slice A2 y.ln c2)).heap.size := by
    have h := R7.out
    rw [Array.getElem?_eq_some_iff] at h
    exact h.1
  clear I5 I6 KL3 KL4 KM1 R5 R6 Q5 Q6 OB
  generalize w4.setCell ⟨b2, 27, none⟩ (.slice A2 y.ln c2) = W5 at I7 KL5 KM2 R7 Q7 o7 ⊢
  generalize W4.heap.size = B2 at KM2 o5 ⊢
  have LT := Lib.hid (lentTexts A n c zs W5 (hr.below I7.out.low) hn)
  go_upto_region 7 with (go_at_call 29; (with_reducible refine LT.out.mono ?_); rintro e w5 ⟨v3, rfl, hK3, hb5⟩; obtain ⟨A3, c3, hv3, hrd3, _⟩ := hK3.rd; rw [hr.1] at hv3 hrd3; subst hv3; have I8 := Lib.hid (I7.out.grow hb5); have KL6 := Lib.hid (KL5.out.below hb5); have KM3 := Lib.hid (KM2.out.below hb5); have KT := Lib.hid hK3; have HRD3 := Lib.hid hrd3; have R8 := Lib.hid ((hb5.block b2 o7).trans R7.out); have Q8 := Lib.hid ((hb5.block b1 (Nat.lt_trans o3 o7)).trans Q7.out); have o8 : b2 < w5.heap.size := Nat.lt_of_lt_of_le o7 hb5.size; clear hb5 hK3 hrd3 LT)
  clear I7 KL5 KM2 R7 Q7
  have L1 := Lib.hid (load_side p (x.lent A1 c1) w5 b1 _ Q8.out)
  have L2 := Lib.hid (load_side q (y.lent A2 c2) w5 b2 _ R8.out)
  have FT := fit_any p q (x.lent A1 c1) (y.lent A2 c2) A3 n c3 zs tol w5 hp hq (lent_wf hx A1 c1) (lent_wf hy A2 c2) ht HRD3.out hsh hn1 (hpw.below I8.out.low)
  rw [sideV_agg, sideV_agg, lent_fit, HFE.out] at FT
  have ca : (sideC p (x.lent A1 c1))[27]? = some (.slice A1 x.ln c1) := rfl
  have cb : (sideC q (y.lent A2 c2))[27]? = some (.slice A2 y.ln c2) := rfl
  generalize sideC p (x.lent A1 c1) = CX1 at *
  generalize sideC q (y.lent A2 c2) = CY1 at *
  have HFT := Lib.hid FT
  clear FT
  go_upto_region 8 with (first | (refine wpList_load_known rfl 59 (.tmp 11) rfl _ _ rfl L1.out ?_) | (refine wpList_load_known rfl 59 (.tmp 12) rfl _ _ rfl L2.out ?_) | (go_at_call 30; (with_reducible refine HFT.out.mono ?_); rintro e w6 ⟨rfl, hb6⟩; have I9 := Lib.hid (I8.out.grow hb6); have KL7 := Lib.hid (KL6.out.below hb6); have KM4 := Lib.hid (KM3.out.below hb6); have KT2 := Lib.hid (KT.out.below hb6); have R9 := Lib.hid ((hb6.block b2 o8).trans R8.out); have Q9 := Lib.hid ((hb6.block b1 (Nat.lt_trans o3 o8)).trans Q8.out); have o9 : b2 < w6.heap.size := Nat.lt_of_lt_of_le o8 hb6.size; clear hb6 HFT))
  clear I8 KL6 KM3 KT R8 Q8 L1 L2 LX LY
  have e1 : (R.1 == R.1) = true := beq_self_eq_true _
  have e2 : (R.2 == R.2) = true := beq_self_eq_true _
  have KT3 := Lib.hid (keptTexts (.slice A3 n c3) A n c zs _ w6 hn KT2.out (hr.below I9.out.low))
  have KX := Lib.hid (fun (W : World) (hB : Below w.heap.size w W) (h : LentK W B1 (.slice A1 x.ln c1) lx) => keptLinks (.slice A1 x.ln c1) x.la x.ln x.lc lx B1 W okx hnx h (hlx.below hB))
  have KY := Lib.hid (fun (W : World) (hB : Below w.heap.size w W) (h : LentK W B2 (.slice A2 y.ln c2) ly) => keptLinks (.slice A2 y.ln c2) y.la y.ln y.lc ly B2 W oky hny h (hly.below hB))
  have CA := Lib.hid ca
  have CB := Lib.hid cb
  clear ca cb
  generalize R.1 = r1 at e1 ⊢
  generalize R.2 = r2 at e2 ⊢
  go_wp2_with (first | (go_at_call 31; (with_reducible refine KT3.out.mono ?_); rintro e w7 ⟨rfl, hb7⟩; have J1 := Lib.hid (I9.out.grow hb7); have KP1 := Lib.hid (KL7.out.below hb7); have KP2 := Lib.hid (KM4.out.below hb7); have P9 := Lib.hid ((hb7.block b2 o9).trans R9.out); have o10 : b2 < w7.heap.size := Nat.lt_of_lt_of_le o9 hb7.size; have g1 : w7.cell? ⟨b1, 27, none⟩ = some (.slice A1 x.ln c1) := (by rw [cell_of_row _ _ _ _ _ _ ((hb7.block b1 (Nat.lt_trans o3 o9)).trans Q9.out)]; exact CA.out); have g2 : w7.cell? ⟨w.heap.size, 27, none⟩ = some (.slice x.la x.ln x.lc) := (by rw [cell_of_row _ _ _ _ _ _ J1.out.one]; exact kx.out); clear hb7 KT3) | (go_at_call 32; (with_reducible refine (KX.out _ J1.out.low KP1.out).mono ?_); rintro e w8 ⟨rfl, hb8⟩; have J2 := Lib.hid (J1.out.grow hb8); have KP3 := Lib.hid (KP2.out.below hb8); have h1 : w8.cell? ⟨b2, 27, none⟩ = some (.slice A2 y.ln c2) := (by rw [cell_of_row _ _ _ _ _ _ ((hb8.block b2 o10).trans P9.out)]; exact CB.out); have h2 : w8.cell? ⟨w.heap.size + 1, 27, none⟩ = some (.slice y.la y.ln y.lc) := (by rw [cell_of_row _ _ _ _ _ _ J2.out.two]; exact ky.out); clear hb8 KX) | (go_at_call 32; (with_reducible refine (KY.out _ J2.out.low KP3.out).mono ?_); rintro e w9 ⟨rfl, hb9⟩; have HEND := Lib.hid (bl_then J2.out.low hb9); clear hb9))
  go_ret
  exact ⟨rfl, HEND.out⟩
end Go.Proofs.YtccnfklemalmeaaDoor
