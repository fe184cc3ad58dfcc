/- The law NoticeCheck by its walk. -/
import Derived.Test.YtblfobepaipebaaGreatDoorNRefC
import Derived.Test.YtblfobepaipebaaGreatDoorPlainG
import Derived.Test.YtblfobepaipebaaGreatDoorHeld
set_option linter.unusedVariables false
set_option linter.unusedSimpArgs false
set_option maxRecDepth 100000
namespace Go.Proofs.YtblfobepaipebaaGreatDoor
open Go.RowKit Go.Shelf

theorem row_free {W : World} {g : Nat} {cs : Array Value} {t : TypeId} (h : W.heap[g]? = some (.cells cs t (0, 0))) (k : Nat) : W.frozen? ⟨g, k, none⟩ = false := by simp [World.frozen?, h]
theorem store_note_new (x : Nt) (W : World) (n : Nat) (hn : n = W.heap.size) (old : Array Value) (ho : old.size = 27) (T : TypeId) : (storeVar 26 ⟨n, 0, none⟩ (.agg (noteC x))).run Tryz.prog (W.alloc (.cells old T)) = .ok () (W.alloc (.cells (noteC x) T)) := by
  subst hn
  exact storeVar_new Tryz.prog W T _ old (noteC x) note_size (by rw [ho]; rfl) (noteC_one x)
/-- A notice with other links. -/
def Nt.lent (x : Nt) (A : Option Addr) (c : Nat) : Nt := { x with la := A, lc := c }
theorem lent_wf {x : Nt} (h : x.wf) (A : Option Addr) (c : Nat) : (x.lent A c).wf := ⟨h.ref, h.prev, h.priority, h.trade, h.settle, h.code, h.qty, h.account, h.agent, h.other, h.amount, h.currency⟩
theorem lent_cells (x : Nt) (A : Option Addr) (c : Nat) : (noteC x).setIfInBounds 26 (.slice A x.ln c) = noteC (x.lent A c) := by kernel_rfl
theorem lent_note (x : Nt) (A : Option Addr) (c : Nat) (lx : List Lk) : noteE (x.lent A c) lx = noteE x lx := rfl
theorem ow_set {w : World} {base n : Nat} {e : TypeId} {size : Nat} {v : Value} {xs : List Value} (h : w.ownsRow base e size v n xs) (a : Addr) (u : Value) (hb : a.block < base) : (w.setCell a u).ownsRow base e size v n xs := by
  refine h.kept (row := some a.block) ⟨rfl, rfl, rfl, by simp [World.setCell], fun i hi hne => Below.heap_setCell _ _ _ _ (fun e => hne (by rw [e]))⟩ ?_
  by_cases hv : v.ownBlock = none
  · left; exact hv
  · right
    intro hc
    have := ow_base h _ hc
    omega
theorem LentK.set {w : World} {B : Nat} {v : Value} {zs : List Lk} (h : LentK w B v zs) (a : Addr) (u : Value) (hb : a.block < B) : LentK (w.setCell a u) B v zs := by
  obtain ⟨g, cap, rfl, hB, hcap, hown⟩ := h
  exact ⟨g, cap, rfl, hB, hcap, ow_set hown a u hb⟩
/-- The notice as it came in, and the one with lent links, lie in memory. -/
structure LnI (w W : World) (C D : Array Value) : Prop where
  low : Below w.heap.size w W
  one : W.heap[w.heap.size]? = some (.cells C 26 (0, 0))
  two : W.heap[w.heap.size + 1]? = some (.cells D 26 (0, 0))
theorem LnI.size {w W : World} {C D : Array Value} (h : LnI w W C D) : w.heap.size + 1 < W.heap.size := by
  have := h.two
  rw [Array.getElem?_eq_some_iff] at this
  exact this.1
theorem LnI.grow {w W W1 : World} {C D : Array Value} (h : LnI w W C D) (hb : Below W.heap.size W W1) : LnI w W1 C D := by
  have hs := h.size
  exact ⟨bl_then h.low hb, by rw [hb.block _ (by omega)]; exact h.one, by rw [hb.block _ (by omega)]; exact h.two⟩
theorem LnI.drew {w W : World} {C D : Array Value} (h : LnI w W C D) : LnI w W.drew C D := ⟨bl_drew h.low, h.one, h.two⟩
set_option maxHeartbeats 4000000 in
theorem law_NoticeCheck (x : Nt) (lx : List Lk) (w : World) (hx : x.wf) (hp : PowT w) (hg : ErrT w) (hr : RdL w x.la x.ln lx) (hok : OkL lx) (hn : x.ln * 24 ≤ 140737488351232) :
    Calls Tryz.prog 3 #[.agg (noteC x)] w fun e w' => e = .returned (.bool true) ∧ Below w.heap.size w w' := by
  have hn1 : x.ln ≤ 5864062014805 := by omega
  have L0 := Lib.hid (note_load x (w.alloc (.cells (noteC x) 26)) w.heap.size _ (heap_alloc_new w _))
  have S0 := Lib.hid (store_note_new x)
  have RC := Lib.hid (fun (W : World) (hb : Below w.heap.size w W) => refCheck_any x hx lx W (hr.below hb) hok hn1)
  have NL := Lib.hid (fun (W : World) h => note_load x W w.heap.size 26 h)
  have LL := Lib.hid (fun (W : World) (hb : Below w.heap.size w W) => lentLinks x.la x.ln x.lc lx W (hr.below hb) hn)
  have KK := Lib.hid (fun (v : Value) (B : Nat) (W : World) (hb : Below w.heap.size w W) (h : LentK W B v lx) => keptLinks v x.la x.ln x.lc lx B W hok hn h (hr.below hb))
  have CK := Lib.hid (fun (A : Option Addr) (c : Nat) (W : World) (hb : Below w.heap.size w W) (h : RdL W A x.ln lx) => check_any (x.lent A c) (lent_wf hx A c) lx W (hp.below hb) h hok hn1)
  have GT := Lib.hid (fun (W : World) (hb : Below w.heap.size w W) => (hg.below hb : ErrT W))
  have EX := Lib.hid (fun A c => lent_cells x A c)
  have NE := Lib.hid (fun A c => lent_note x A c lx)
  have RE := Lib.hid (refNote_eq x lx)
  have c26 := Lib.hid (show (noteC x)[26]? = some (.slice x.la x.ln x.lc) from rfl)
  have NS : (noteC x).size = 27 := rfl
  have HL := Lib.hid hr.1
  clear hr
  generalize hNX : noteC x = NX at *
  have HNX := Lib.hid hNX
  clear hNX
  have PE := Lib.hid (fun (E : GErr) (W : World) (h1 : E.plain = true) (h2 : E.ok) (h3 : E.num = noteE x lx) (h4 : ErrT W) => ((plain_err E h1 h2 (noteE x lx) W h4).mono fun e w' h => (⟨by rw [h.1, h3, decide_eq_true rfl], h.2⟩ : e = .returned (.bool true) ∧ Below W.heap.size W w')))
  rw [RE.out] at RC
  generalize noteE x lx = R at *
  generalize hXL : x.ln = LN at *
  generalize hXA : x.la = LA at *
  generalize hXC : x.lc = LC at *
  go_enter Tryz.func3, Tryz.ntmps3
  go_upto_region 2 with (first | (refine wpList_load_known rfl 26 (.tmp 1) rfl ⟨w.heap.size, 0, none⟩ (.agg NX) rfl L0.out ?_) | (refine wpList_store_plain rfl rfl 26 (.tmp 3) (.tmp 5) rfl ⟨w.heap.size + 1, 0, none⟩ (.agg NX) (by simp [go_sem, Act.eval]) (by simp [go_sem, Act.eval]) (S0.out (w.alloc (.cells NX 26)) _ (by simp) _ rfl _) ?_))
  have I0 : Hid (LnI w ((w.alloc (.cells NX 26)).alloc (.cells NX 26)) NX NX) := Lib.hid ⟨bl_alloc (bl_alloc (bl_refl w) _) _, heap_alloc2_old w _ _, heap_alloc2_new w _ _⟩
  clear L0 S0
  generalize (w.alloc (.cells NX 26)).alloc (.cells NX 26) = W2 at I0 ⊢
  have o2 := I0.out.size
  have r26 : W2.cell? ⟨w.heap.size, 26, none⟩ = some (.slice LA LN LC) := by rw [cell_of_row _ _ _ _ _ _ I0.out.one]; exact c26.out
  have q26 : W2.cell? ⟨w.heap.size + 1, 26, none⟩ = some (.slice LA LN LC) := by rw [cell_of_row _ _ _ _ _ _ I0.out.two]; exact c26.out
  have LL1 := Lib.hid (LL.out W2 I0.out.low)
  go_upto_region 3 with (go_at_call 9; go_loud ((with_reducible refine LL1.out.mono ?_); rintro e w2 ⟨v1, rfl, hK1, hb2⟩; obtain ⟨A1, c1, hv1, hrdx, _⟩ := hK1.rd; rw [HL.out] at hv1; subst hv1; clear hrdx; have c27 := bl_cell hb2 q26; have f27 : w2.frozen? ⟨w.heap.size + 1, 26, none⟩ = false := row_free ((hb2.block _ o2).trans I0.out.two) 26; have I1 := Lib.hid (I0.out.grow hb2); have KL1 := Lib.hid hK1; clear hK1 hb2 LL1 r26 q26))
  clear c27 f27
  have KL2 := Lib.hid (KL1.out.set ⟨w.heap.size + 1, 26, none⟩ (.slice A1 LN c1) o2)
  have R4 : Hid ((w2.setCell ⟨w.heap.size + 1, 26, none⟩ (.slice A1 LN c1)).heap[w.heap.size + 1]? = some (.cells (noteC (x.lent A1 c1)) 26 (0, 0))) := Lib.hid (by rw [heap_setCell_same w2 (w.heap.size + 1) 26 NX _ _ I1.out.two, EX.out])
  have Q4 : Hid ((w2.setCell ⟨w.heap.size + 1, 26, none⟩ (.slice A1 LN c1)).heap[w.heap.size]? = some (.cells NX 26 (0, 0))) := Lib.hid ((Below.heap_setCell _ _ _ _ (by show w.heap.size ≠ w.heap.size + 1; omega)).trans I1.out.one)
  have B4 := Lib.hid (bl_set I1.out.low (p := ⟨w.heap.size + 1, 26, none⟩) (by show w.heap.size ≤ w.heap.size + 1; omega) (.slice A1 LN c1))
  have CKX := Lib.hid (fun (W : World) (hb : Below w.heap.size w W) (h : RdL W A1 LN lx) => CK.out A1 c1 W hb h)
  have I4 : Hid (LnI w (w2.setCell ⟨w.heap.size + 1, 26, none⟩ (.slice A1 LN c1)) NX (noteC (x.lent A1 c1))) := Lib.hid ⟨B4.out, Q4.out, R4.out⟩
  have d26 := Lib.hid (show (noteC (x.lent A1 c1))[26]? = some (.slice A1 x.ln c1) from rfl)
  have NL2 := Lib.hid (fun (W : World) h => note_load (x.lent A1 c1) W (w.heap.size + 1) 26 h)
  have NE1 := NE.out A1 c1
  rw [hXL] at d26
  clear I0 I1 KL1 R4 Q4 B4 CK EX LL
  generalize noteC (x.lent A1 c1) = CX at I4 d26 CKX NL2
  have e4 : (w2.setCell ⟨w.heap.size + 1, 26, none⟩ (.slice A1 LN c1)).cell? ⟨w.heap.size + 1, 26, none⟩ = some (.slice A1 LN c1) := by rw [cell_of_row _ _ _ _ _ _ I4.out.two]; exact d26.out
  generalize w2.setCell ⟨w.heap.size + 1, 26, none⟩ (.slice A1 LN c1) = W4 at I4 KL2 e4 ⊢
  generalize W2.heap.size = B2 at KL2
  go_upto_region 4 with fail
  clear e4
  have KB := Lib.hid (fun (W W1 : World) (hb : Below W.heap.size W W1) (h : LnI w W NX CX ∧ LentK W B2 (.slice A1 LN c1) lx) => (⟨h.1.grow hb, h.2.below hb⟩ : LnI w W1 NX CX ∧ LentK W1 B2 (.slice A1 LN c1) lx))
  have KS := Lib.hid (show LnI w W4.drew NX CX ∧ LentK W4.drew B2 (.slice A1 LN c1) lx from ⟨I4.out.drew, KL2.out.below (bl_drew (bl_refl W4))⟩)
  have CKS := Lib.hid (fun (W : World) (h : LnI w W NX CX ∧ LentK W B2 (.slice A1 LN c1) lx) => CKX.out W h.1.low (by
    obtain ⟨A, c, e1, e2, _⟩ := h.2.rd
    have e3 : A = A1 := by injection e1 with e4 _ _; exact e4.symm
    rw [HL.out, e3] at e2
    exact e2))
  have CE := Lib.hid (fun (W : World) (h : LnI w W NX CX) => (by rw [cell_of_row _ _ _ _ _ _ h.one]; exact c26.out : W.cell? ⟨w.heap.size, 26, none⟩ = some (.slice LA LN LC)))
  clear KL2 I4
  refine wp_region_held_drew (S := fun W => LnI w W NX CX ∧ LentK W B2 (.slice A1 LN c1) lx) (by kernel_rfl) (KS.out) (fun hHeld => ?_)
  refine wpAnyH_take (i := 0) (oi := ({ dst := some 12, op := Op.load 26 (Operand.tmp 3), type := 26, pos := "law.go:20", after := #[], guard := none } : Oper)) (v := .agg CX) rfl (by kernel_rfl) (by kernel_rfl) (by kernel_rfl) (fun _ _ _ h => h) (yieldsIf_load_known (by rfl) 26 (Operand.tmp 3) rfl ⟨w.heap.size + 1, 0, none⟩ (.agg CX) rfl (fun w' h => NL2.out _ h.1.two)) hHeld ?_
  try simp only [Act.put, List.setIfInBounds_toArray, List.set_cons_zero, List.set_cons_succ]
  refine wpAnyH_take (i := 2) (oi := ({ dst := some 14, op := Op.load 26 (Operand.tmp 1), type := 26, pos := "law.go:20", after := #[], guard := none } : Oper)) (v := .agg NX) rfl (by kernel_rfl) (by kernel_rfl) (by kernel_rfl) (fun _ _ _ h => h) (yieldsIf_load_known (by rfl) 26 (Operand.tmp 1) rfl ⟨w.heap.size, 0, none⟩ (.agg NX) rfl (fun w' h => NL.out _ h.1.one)) hHeld ?_
  try simp only [Act.put, List.setIfInBounds_toArray, List.set_cons_zero, List.set_cons_succ]
  refine wpAnyH_ready (rs := [1]) (by kernel_rfl) (by simp) ?_
  refine AllReadyH.cons (o := ({ dst := some 13, op := Op.call { callee := Callee.value (Operand.func 11), args := #[Operand.tmp 12], argTypes := #[26] }, type := 30, pos := "law.go:20", after := #[{ on := 0, ground := Ground.data }], guard := none } : Oper)) rfl (fun K hK => ?_) AllReadyH.nil
  go_simp
  go_at_call 11
  (with_reducible refine (CKS.out _ hHeld).mono ?_)
  rintro e w1 ⟨E, rfl, en, eo, ep, hb⟩
  rw [NE1] at en
  refine hK.out _ _ (KB.out _ _ hb hHeld) (fun hHeld2 => ?_)
  clear hK K hHeld hb
  have hHeld := hHeld2
  clear hHeld2
  try simp only [Act.put, List.setIfInBounds_toArray, List.set_cons_zero, List.set_cons_succ]
  refine wpAnyH_ready (rs := [3]) (by kernel_rfl) (by simp) ?_
  refine AllReadyH.cons (o := ({ dst := some 15, op := Op.call { callee := Callee.value (Operand.func 12), args := #[Operand.tmp 14], argTypes := #[26] }, type := 3, pos := "law.go:20", after := #[{ on := 2, ground := Ground.data }, { on := 1, ground := Ground.chain }], guard := none } : Oper)) rfl (fun K hK => ?_) AllReadyH.nil
  go_simp
  go_at_call 12
  (with_reducible refine (RC.out _ hHeld.1.low).mono ?_)
  rintro e w1 ⟨rfl, hb⟩
  refine hK.out _ _ (KB.out _ _ hb hHeld) (fun hHeld2 => ?_)
  clear hK K hHeld hb
  have hHeld := hHeld2
  clear hHeld2
  try simp only [Act.put, List.setIfInBounds_toArray, List.set_cons_zero, List.set_cons_succ]
  refine wpAnyH_ready (rs := [4]) (by kernel_rfl) (by simp) ?_
  refine AllReadyH.cons (o := ({ dst := some 16, op := Op.call { callee := Callee.value (Operand.func 10), args := #[Operand.tmp 13, Operand.tmp 15], argTypes := #[30, 3] }, type := 4, pos := "law.go:20", after := #[{ on := 1, ground := Ground.data }, { on := 3, ground := Ground.data }, { on := 3, ground := Ground.chain }], guard := none } : Oper)) rfl (fun K hK => ?_) AllReadyH.nil
  go_simp
  go_at_call 10
  (with_reducible refine (PE.out E _ ep eo en (GT.out _ hHeld.1.low)).mono ?_)
  rintro e w1 ⟨rfl, hb⟩
  refine hK.out _ _ (KB.out _ _ hb hHeld) (fun hHeld2 => ?_)
  clear hK K hHeld hb
  have hHeld := hHeld2
  clear hHeld2
  try simp only [Act.put, List.setIfInBounds_toArray, List.set_cons_zero, List.set_cons_succ]
  refine wpAnyH_take (i := 5) (oi := ({ dst := some 17, op := Op.move (Operand.tmp 16), type := 4, pos := "law.go:20", after := #[{ on := 4, ground := Ground.data }, { on := 4, ground := Ground.chain }], guard := none } : Oper)) (v := ?_) rfl (by kernel_rfl) (by kernel_rfl) (by kernel_rfl) (fun _ _ _ h => h) (Or.inl ⟨by rfl, ?_⟩) hHeld ?_
  rotate_left
  · intro w' hSw; (try dsimp only at hSw); go_simp <;> with_reducible rfl
  try simp only [Act.put, List.setIfInBounds_toArray, List.set_cons_zero, List.set_cons_succ]
  refine wpAnyH_take (i := 6) (oi := ({ dst := some 18, op := Op.move (Operand.tmp 4), type := 24, pos := "law.go:20", after := #[{ on := 5, ground := Ground.guard }], guard := some (5, true) } : Oper)) (v := ?_) rfl (by kernel_rfl) (by kernel_rfl) (by kernel_rfl) (fun _ _ _ h => h) (Or.inl ⟨by rfl, ?_⟩) hHeld ?_
  rotate_left
  · intro w' hSw; (try dsimp only at hSw); go_simp <;> with_reducible rfl
  try simp only [Act.put, List.setIfInBounds_toArray, List.set_cons_zero, List.set_cons_succ]
  refine wpAnyH_take (i := 7) (oi := ({ dst := some 19, op := Op.fieldAddr 26 (Operand.tmp 1) 15, type := 0, pos := "law.go:20", after := #[{ on := 5, ground := Ground.guard }], guard := some (5, true) } : Oper)) (v := ?_) rfl (by kernel_rfl) (by kernel_rfl) (by kernel_rfl) (fun _ _ _ h => h) (Or.inl ⟨by rfl, ?_⟩) hHeld ?_
  rotate_left
  · intro w' hSw; (try dsimp only at hSw); go_simp <;> with_reducible rfl
  try simp only [Act.put, List.setIfInBounds_toArray, List.set_cons_zero, List.set_cons_succ]
  refine wpAnyH_take (i := 8) (oi := ({ dst := some 20, op := Op.load 24 (Operand.tmp 19), type := 24, pos := "law.go:20", after := #[{ on := 7, ground := Ground.data }, { on := 5, ground := Ground.guard }], guard := some (5, true) } : Oper)) (v := ?_) rfl (by kernel_rfl) (by kernel_rfl) (by kernel_rfl) (fun _ _ _ h => h) (Or.inl ⟨by rfl, ?_⟩) hHeld ?_
  rotate_left
  · intro w' hSw; (try dsimp only at hSw); have hcf := CE.out _ hSw.1; go_simp <;> with_reducible rfl
  try simp only [Act.put, List.setIfInBounds_toArray, List.set_cons_zero, List.set_cons_succ]
  refine wpAnyH_ready (rs := [9]) (by kernel_rfl) (by simp) ?_
  refine AllReadyH.cons (o := ({ dst := some 21, op := Op.call { callee := Callee.value (Operand.func 13), args := #[Operand.tmp 18, Operand.tmp 20], argTypes := #[24, 24] }, type := 4, pos := "law.go:20", after := #[{ on := 6, ground := Ground.data }, { on := 8, ground := Ground.data }, { on := 5, ground := Ground.chain }, { on := 5, ground := Ground.guard }], guard := some (5, true) } : Oper)) rfl (fun K hK => ?_) AllReadyH.nil
  go_simp
  go_at_call 13
  (with_reducible refine (KK.out (.slice A1 LN c1) B2 _ hHeld.1.low hHeld.2).mono ?_)
  rintro e w1 ⟨rfl, hb⟩
  refine hK.out _ _ (KB.out _ _ hb hHeld) (fun hHeld2 => ?_)
  clear hK K hHeld hb
  have hHeld := hHeld2
  clear hHeld2
  try simp only [Act.put, List.setIfInBounds_toArray, List.set_cons_zero, List.set_cons_succ]
  refine wpAnyH_take (i := 10) (oi := ({ dst := some 22, op := Op.pick (Operand.tmp 17) (Operand.tmp 21) (Operand.const (Value.bool false)), type := 4, pos := "law.go:20", after := #[{ on := 5, ground := Ground.data }, { on := 9, ground := Ground.data }], guard := none } : Oper)) (v := ?_) rfl (by kernel_rfl) (by kernel_rfl) (by kernel_rfl) (fun _ _ _ h => h) (Or.inl ⟨by rfl, ?_⟩) hHeld ?_
  rotate_left
  · intro w' hSw; (try dsimp only at hSw); go_simp <;> with_reducible rfl
  try simp only [Act.put, List.setIfInBounds_toArray, List.set_cons_zero, List.set_cons_succ]
  refine wpAnyH_take (i := 11) (oi := ({ dst := some 2, op := Op.assign (Operand.tmp 22), type := 4, pos := "law.go:20", after := #[{ on := 10, ground := Ground.data }, { on := 9, ground := Ground.chain }, { on := 0, ground := Ground.phase }, { on := 1, ground := Ground.phase }, { on := 2, ground := Ground.phase }, { on := 3, ground := Ground.phase }, { on := 4, ground := Ground.phase }, { on := 5, ground := Ground.phase }, { on := 6, ground := Ground.phase }, { on := 7, ground := Ground.phase }, { on := 8, ground := Ground.phase }, { on := 9, ground := Ground.phase }, { on := 10, ground := Ground.phase }], guard := none } : Oper)) (v := ?_) rfl (by kernel_rfl) (by kernel_rfl) (by kernel_rfl) (fun _ _ _ h => h) (Or.inl ⟨by rfl, ?_⟩) hHeld ?_
  rotate_left
  · intro w' hSw; (try dsimp only at hSw); go_simp <;> with_reducible rfl
  try simp only [Act.put, List.setIfInBounds_toArray, List.set_cons_zero, List.set_cons_succ]
  refine wpAnyH_done (by kernel_rfl) ?_ _
  go_wp2
  go_ret
  exact ⟨rfl, hHeld.1.low⟩
theorem rowlaw_NoticeCheck (w : World) (hp : PowT w) (hg : ErrT w) (x : Nt) (lx : List Lk) (hx : x.wf) (hr : RdL w x.la x.ln lx) (hok : OkL lx) (hn : x.ln * 24 ≤ 140737488351232) :
    Calls Tryz.prog 3 #[.agg (noteC x)] w fun e w' => e = .returned (.bool true) ∧ Below w.heap.size w w' :=
  law_NoticeCheck x lx w hx hp hg hr hok hn
end Go.Proofs.YtblfobepaipebaaGreatDoor
