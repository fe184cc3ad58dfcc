/- The document's Fit: two notices that are unlike. -/
import Derived.Test.YtccnfklemalmeaaDoorRefFit
import Derived.Deep.Cut
set_option linter.unusedVariables false
set_option linter.unusedSimpArgs false
set_option maxRecDepth 100000
namespace Go.Proofs.YtccnfklemalmeaaDoor
open Go.RowKit Go.Shelf

theorem sideV_agg (p : Int) (x : Nt) : sideV p x = .agg (sideC p x) := rfl
theorem note_size : (Tryd.prog.info? 57).map (·.size) = some 27 := by kernel_rfl
theorem note_desc : (match Tryd.prog.underlying 57 with | some (.struct _) => true | _ => false) = true := by kernel_rfl
theorem side_at (p : Int) (x : Nt) : ∀ (j : Nat) (v : Value), (noteC x).toList[j]? = some v → (sideC p x)[1 + j]? = some v := fun j v h => by
  rw [← Array.getElem?_toList, show (sideC p x).toList = .int .i64 p :: (noteC x).toList from rfl, Nat.add_comm]
  exact h
theorem load_note (p : Int) (x : Nt) (W : World) (g : Nat) (T : TypeId) (hg : W.heap[g]? = some (.cells (sideC p x) T (0, 0))) : (loadVar 57 ⟨g, 1, none⟩).run Tryd.prog W = .ok (.agg (noteC x)) W := by
  have hd := note_desc
  cases hu : Tryd.prog.underlying 57 with
  | none => rw [hu] at hd; cases hd
  | some d =>
    rw [hu] at hd
    refine loadVar_part Tryd.prog W g 1 _ (noteC x).toList d hu (by cases d <;> simp_all) note_size fun j v hv => ?_
    rw [cell_of_row W g (1 + j) _ T _ hg]
    exact side_at p x j v hv
theorem store_note (x : Nt) (W : World) (n : Nat) (hn : n = W.heap.size) (old : Array Value) (ho : old.size = 27) (T : TypeId) : (storeVar 57 ⟨n, 0, none⟩ (.agg (noteC x))).run Tryd.prog (W.alloc (.cells old T)) = .ok () (W.alloc (.cells (noteC x) T)) := by
  subst hn
  exact storeVar_new Tryd.prog W T _ old (noteC x) note_size (by rw [ho]; rfl) (noteC_one x)
/-- The cells of a notice that are compared. -/
theorem note_cells (x : Nt) : (noteC x)[2]? = some (.bool x.cancel) ∧ (noteC x)[3]? = some (.bool x.receive) ∧ (noteC x)[4]? = some (.bool x.pay) ∧ (noteC x)[5]? = some (.int .i64 x.trade) ∧ (noteC x)[6]? = some (.int .i64 x.settle) ∧
    (noteC x)[19]? = some (.int .i64 x.qty) ∧ (noteC x)[20]? = some (.string x.account) ∧ (noteC x)[21]? = some (.string x.agent) ∧ (noteC x)[22]? = some (.string x.other) ∧ (noteC x)[23]? = some (.int .i64 x.amount) ∧ (noteC x)[24]? = some (.string x.currency) :=
  ⟨rfl, rfl, rfl, rfl, rfl, rfl, rfl, rfl, rfl, rfl, rfl⟩
theorem code_size : (Tryd.prog.info? 54).map (·.size) = some 12 := by kernel_rfl
theorem code_desc : (match Tryd.prog.underlying 54 with | some (.array _ _) => true | _ => false) = true := by kernel_rfl
theorem code_part (x : Nt) : ∀ (j : Nat) (v : Value), (codeV x.code).toList[j]? = some v → (noteC x)[7 + j]? = some v := fun j v h => by
  rw [← Array.getElem?_toList, show (noteC x).toList = (noteC x).toList.take 7 ++ ((codeV x.code).toList ++ (noteC x).toList.drop 19) from rfl, List.getElem?_append_right (by show 7 ≤ 7 + j; omega), show 7 + j - ((noteC x).toList.take 7).length = j by show 7 + j - 7 = j; omega]
  obtain ⟨hj, _⟩ := List.getElem?_eq_some_iff.1 h
  rw [List.getElem?_append_left hj]
  exact h
theorem load_code (x : Nt) (W : World) (g : Nat) (T : TypeId) (hg : W.heap[g]? = some (.cells (noteC x) T (0, 0))) : (loadVar 54 ⟨g, 7, none⟩).run Tryd.prog W = .ok (.agg (codeV x.code)) W := by
  have hd := code_desc
  cases hu : Tryd.prog.underlying 54 with
  | none => rw [hu] at hd; cases hd
  | some d =>
    rw [hu] at hd
    refine loadVar_part Tryd.prog W g 7 _ (codeV x.code).toList d hu (by cases d <;> simp_all) code_size fun j v hv => ?_
    rw [cell_of_row W g (7 + j) _ T _ hg]
    exact code_part x j v hv
theorem heap_at (W : World) (o : Obj) (n : Nat) (hn : n = W.heap.size) : (W.alloc o).heap[n]? = some o := by rw [hn]; exact heap_alloc_new W o
theorem wpList_load_guarded {P : Program} {ops : Array Oper} {rest : List Oper} {o : Oper} {a : Act} {w : World} {Q : Exit → Act → World → Prop} (ty : TypeId) (x : Operand) (ho : o.op = .load ty x)
    (ad : Addr) (v : Value) (hx : a.eval x = .pointer (some ad)) (hl : (loadVar ty ad).run P w = .ok v w) (hw : Region.wanted o (yielded ops a.tmps) = true) (h : wpList P ops Q rest (a.put o.dst v) w) : wpList P ops Q (o :: rest) a w :=
  wpList_step fun _ hK => by
    rw [if_pos hw]
    unfold Oper.wp execOp
    simp only [ho, hx, Instr.loadAt, Instr.sureAddr, Sem.run_bind, Sem.run_pure, Result.andThen_ok, hl]
    exact hK _ _ h
theorem is22_at {w W : World} (A : Option Addr) (n c : Nat) (zs : List ByteArray) (p : Int) (b : ByteArray) {v : Bool} (hv : isB zs p b = v) (hB : Below w.heap.size w W) (hr : RdT w A n zs) (hsh : Short zs) (hb : b.size ≤ 140737488351232) (hn : n ≤ 140737488351232) :
    Calls Tryd.prog 54 #[.slice A n c, .int .i64 p, .string b] W fun e w' => e = .returned (.bool v) ∧ Below W.heap.size W w' := by
  subst hv
  exact is22_any A n c zs p b W (hr.below hB) hsh hb hn
theorem refNear_at (a b y : Int) {v : Bool} (hv : nearB a b y = v) (ha : I64 a) (hb : I64 b) (hy : I64 y) (w : World) :
    Calls Tryd.prog 55 #[.int .i64 a, .int .i64 b, .int .i64 y] w fun e w' => e = .returned (.bool v) ∧ w = w' := by
  subst hv
  exact refNear_any a b y ha hb hy w
set_option maxHeartbeats 4000000 in
theorem refFit_unlike (p q : Int) (x y : Nt) (A : Option Addr) (n c : Nat) (zs : List ByteArray) (tol : Int) (w : World) (hp : I64 p) (hq : I64 q) (hx : x.wf) (hy : y.wf) (ht : I64 tol) (hr : RdT w A n zs) (hsh : Short zs) (hn : n ≤ 140737488351232) (hun : unlike x y = true) :
    Calls Tryd.prog 27 #[sideV p x, sideV q y, .slice A n c, .int .i64 tol] w fun e w' => e = .returned (.tuple #[.int .i64 (fitE p q x y zs tol).1, .bool (fitE p q x y zs tol).2]) ∧ Below w.heap.size w w' := by
  generalize hF : fitE p q x y zs tol = R
  have HF := Lib.hid hF
  clear hF
  rw [sideV_agg, sideV_agg]
  have L1 := Lib.hid (load_note p x ((w.alloc (.cells (sideC p x) 59)).alloc (.cells (sideC q y) 59)) w.heap.size _ (heap_alloc2_old w _ _))
  have L2 := Lib.hid (load_note q y (((w.alloc (.cells (sideC p x) 59)).alloc (.cells (sideC q y) 59)).alloc (.cells (noteC x) 57)) (w.heap.size + 1) _ (by rw [heap_alloc_old _ _ (by simp)]; exact heap_alloc2_new w _ _))
  have S1 := Lib.hid (store_note x)
  have S2 := Lib.hid (store_note y)
  have c0 : (sideC p x)[0]? = some (.int .i64 p) := rfl
  have d0 : (sideC q y)[0]? = some (.int .i64 q) := rfl
  generalize sideC p x = C at L1 L2 c0 ⊢
  generalize sideC q y = D at L1 L2 d0 ⊢
  obtain ⟨a2, a3, a4, a5, a6, a19, a20, a21, a22, a23, a24⟩ := note_cells x
  obtain ⟨b2, b3, b4, b5, b6, b19, b20, b21, b22, b23, b24⟩ := note_cells y
  have K1 := Lib.hid (load_code x)
  have K2 := Lib.hid (load_code y)
  have hcn := Lib.hid (fun w => code_neq x.code y.code hx.code hy.code w)
  generalize noteC x = NX at L1 L2 S1 K1 a2 a3 a4 a5 a6 a19 a20 a21 a22 a23 a24
  generalize noteC y = NY at L2 S2 K2 b2 b3 b4 b5 b6 b19 b20 b21 b22 b23 b24
  go_enter Tryd.func27, Tryd.ntmps27
  go_upto_region 1 with fail
  go_upto_region 2 with (first | (refine wpList_load_known rfl 57 _ rfl _ _ rfl L1.out ?_) | (refine wpList_store_known rfl 57 _ _ rfl _ _ rfl rfl (S1.out _ _ (by simp) _ rfl _) ?_))
  go_upto_region 3 with (first | (refine wpList_load_known rfl 57 _ rfl _ _ rfl L2.out ?_) | (refine wpList_store_known rfl 57 _ _ rfl _ _ rfl rfl (S2.out _ _ (by simp) _ rfl _) ?_))
  clear L1 L2 S1 S2
  have KL1 := Lib.hid (K1.out ((((w.alloc (.cells C 59)).alloc (.cells D 59)).alloc (.cells NX 57)).alloc (.cells NY 57)) (w.heap.size + 1 + 1) _ (by rw [heap_alloc_old _ _ (by simp)]; exact heap_at _ _ _ (by simp)))
  have KL2 := Lib.hid (K2.out ((((w.alloc (.cells C 59)).alloc (.cells D 59)).alloc (.cells NX 57)).alloc (.cells NY 57)) (w.heap.size + 1 + 1 + 1) _ (heap_at _ _ _ (by simp)))
  cases h1 : x.receive with
  | true =>
    rw [h1] at a3
    have hr2 : Hid (R = (0, false)) := Lib.hid (by rw [← HF.out]; unfold fitE unlike; simp [h1])
    clear KL1 KL2 K1 K2 hcn
    go_wp2
    go_ret2
    exact ⟨by rw [hr2.out]; rfl, bl_alloc (bl_alloc (bl_alloc (bl_alloc (bl_refl w) _) _) _) _⟩
  | false =>
    rw [h1] at a3
    cases h2 : y.receive with
    | false =>
      rw [h2] at b3
      have hr2 : Hid (R = (0, false)) := Lib.hid (by rw [← HF.out]; unfold fitE unlike; simp [h1, h2])
      clear KL1 KL2 K1 K2 hcn
      go_wp2
      go_ret2
      exact ⟨by rw [hr2.out]; rfl, bl_alloc (bl_alloc (bl_alloc (bl_alloc (bl_refl w) _) _) _) _⟩
    | true =>
      rw [h2] at b3
      cases h3 : x.cancel with
      | true =>
        rw [h3] at a2
        have hr2 : Hid (R = (0, false)) := Lib.hid (by rw [← HF.out]; unfold fitE unlike; simp [h1, h2, h3])
        clear KL1 KL2 K1 K2 hcn
        go_wp2
        go_ret2
        exact ⟨by rw [hr2.out]; rfl, bl_alloc (bl_alloc (bl_alloc (bl_alloc (bl_refl w) _) _) _) _⟩
      | false =>
        rw [h3] at a2
        cases h4 : y.cancel with
        | true =>
          rw [h4] at b2
          have hr2 : Hid (R = (0, false)) := Lib.hid (by rw [← HF.out]; unfold fitE unlike; simp [h1, h2, h3, h4])
          clear KL1 KL2 K1 K2 hcn
          go_wp2
          go_ret2
          exact ⟨by rw [hr2.out]; rfl, bl_alloc (bl_alloc (bl_alloc (bl_alloc (bl_refl w) _) _) _) _⟩
        | false =>
          rw [h4] at b2
          cases h5 : (x.trade != y.trade) with
          | true =>
            have hr2 : Hid (R = (0, false)) := Lib.hid (by rw [← HF.out]; unfold fitE unlike; simp [h1, h2, h3, h4, h5])
            clear KL1 KL2 K1 K2 hcn
            go_wp2
            go_ret2
            exact ⟨by rw [hr2.out]; rfl, bl_alloc (bl_alloc (bl_alloc (bl_alloc (bl_refl w) _) _) _) _⟩
          | false =>
            cases h6 : (x.settle != y.settle) with
            | true =>
              have hr2 : Hid (R = (0, false)) := Lib.hid (by rw [← HF.out]; unfold fitE unlike; simp [h1, h2, h3, h4, h5, h6])
              clear KL1 KL2 K1 K2 hcn; go_wp2
              go_ret2
              exact ⟨by rw [hr2.out]; rfl, bl_alloc (bl_alloc (bl_alloc (bl_alloc (bl_refl w) _) _) _) _⟩
            | false =>
              have hcc := hcn.out
              cases h7 : sameCode x.code y.code with
              | false =>
                rw [h7] at hcc
                have hr2 : Hid (R = (0, false)) := Lib.hid (by rw [← HF.out]; unfold fitE unlike; simp [h1, h2, h3, h4, h5, h6, h7])
                go_wp2_with (first | (refine wpList_load_guarded 54 _ rfl _ _ rfl KL1.out (by rfl) ?_) | (refine wpList_load_guarded 54 _ rfl _ _ rfl KL2.out (by rfl) ?_))
                go_ret2
                exact ⟨by rw [hr2.out]; rfl, bl_alloc (bl_alloc (bl_alloc (bl_alloc (bl_refl w) _) _) _) _⟩
              | true =>
                rw [h7] at hcc
                cases h8 : (x.qty != y.qty) with
                | true =>
                  have hr2 : Hid (R = (0, false)) := Lib.hid (by rw [← HF.out]; unfold fitE unlike; simp [h1, h2, h3, h4, h5, h6, h7, h8])
                  go_wp2_with (first | (refine wpList_load_guarded 54 _ rfl _ _ rfl KL1.out (by rfl) ?_) | (refine wpList_load_guarded 54 _ rfl _ _ rfl KL2.out (by rfl) ?_))
                  go_ret2
                  exact ⟨by rw [hr2.out]; rfl, bl_alloc (bl_alloc (bl_alloc (bl_alloc (bl_refl w) _) _) _) _⟩
                | false =>
                  cases h9 : x.pay <;> cases h10 : y.pay <;> rw [h9] at a4 <;> rw [h10] at b4
                  · exact absurd hun (by unfold unlike; simp [h1, h2, h3, h4, h5, h6, h7, h8, h9, h10])
                  · have hr2 : Hid (R = (0, false)) := Lib.hid (by rw [← HF.out]; unfold fitE unlike; simp [h1, h2, h3, h4, h5, h6, h7, h8, h9, h10])
                    go_wp2_with (first | (refine wpList_load_guarded 54 _ rfl _ _ rfl KL1.out (by rfl) ?_) | (refine wpList_load_guarded 54 _ rfl _ _ rfl KL2.out (by rfl) ?_))
                    go_ret2
                    exact ⟨by rw [hr2.out]; rfl, bl_alloc (bl_alloc (bl_alloc (bl_alloc (bl_refl w) _) _) _) _⟩
                  · have hr2 : Hid (R = (0, false)) := Lib.hid (by rw [← HF.out]; unfold fitE unlike; simp [h1, h2, h3, h4, h5, h6, h7, h8, h9, h10])
                    go_wp2_with (first | (refine wpList_load_guarded 54 _ rfl _ _ rfl KL1.out (by rfl) ?_) | (refine wpList_load_guarded 54 _ rfl _ _ rfl KL2.out (by rfl) ?_))
                    go_ret2
                    exact ⟨by rw [hr2.out]; rfl, bl_alloc (bl_alloc (bl_alloc (bl_alloc (bl_refl w) _) _) _) _⟩
                  · exact absurd hun (by unfold unlike; simp [h1, h2, h3, h4, h5, h6, h7, h8, h9, h10])
end Go.Proofs.YtccnfklemalmeaaDoor
