/- Joined texts of this proof: Wk22b. -/
import Derived.Outline
import Derived.Test.YtphabkaiheplpaaGreatDoorRests32
/- The example of chapter 22: its members; a list of one pair and its like. -/
set_option linter.unusedVariables false
set_option linter.unusedSimpArgs false
set_option maxRecDepth 100000
namespace Go.Proofs.YtphabkaiheplpaaGreatDoor
open Go.RowKit Go.Shelf

theorem members_any (w : World) : Calls Tryz.prog 27 #[] w fun e w' => e = .returned (.slice (some ⟨w.heap.size, 0, none⟩) 2 2) ∧ w' = w.alloc (.cells #[.string sDEUT, .string sBNP] 9) := by
  go_enter Tryz.func27, Tryz.ntmps27
  go_wp2
  go_ret
  exact ⟨rfl, rfl⟩
theorem membersR (w : World) : RdT (w.alloc (.cells #[.string sDEUT, .string sBNP] 9)) (some ⟨w.heap.size, 0, none⟩) 2 zsW := by
  have hg := heap_alloc_new w (.cells #[.string sDEUT, .string sBNP] 9)
  refine ⟨rfl, fun i hi => ⟨_, rfl, ?_⟩⟩
  rw [Addr.add_lit, Nat.zero_add, cell_of_row _ _ i _ _ _ hg]
  rcases i with _ | _ | i
  · rfl
  · rfl
  · omega
def apV : Value := .agg #[.int .i64 1, .int .i64 0, .int .i64 5000]
theorem ap_desc : (match Tryz.prog.underlying 76 with | some (.struct _) => true | _ => false) = true := by kernel_rfl
theorem ap_size : (Tryz.prog.info? 76).map (·.size) = some 3 := by kernel_rfl
theorem ap_neq (w : World) : (binOp .neq 76 apV apV).run Tryz.prog w = .ok (.bool false) w := by kernel_rfl
theorem ap_guard (w : World) : (eqGuard .neq 76 (.tmp 20) (.tmp 24) apV apV).run Tryz.prog w = .ok () w := by kernel_rfl
/-- A list of this one pair. -/
def One (w : World) (g : Nat) : Prop := ∃ cur T fr, w.heap[g]? = some (.cells cur T fr) ∧ cur[0]? = some (.int .i64 1) ∧ cur[1]? = some (.int .i64 0) ∧ cur[2]? = some (.int .i64 5000)
theorem One.load {w : World} {g : Nat} (h : One w g) : (loadVar 76 ⟨g, 0, none⟩).run Tryz.prog w = .ok apV w := by
  obtain ⟨cur, T, fr, hg, h0, h1, h2⟩ := h
  have hd := ap_desc
  cases hu : Tryz.prog.underlying 76 with
  | none => rw [hu] at hd; cases hd
  | some d =>
    rw [hu] at hd
    have := loadVar_part Tryz.prog w g 0 76 [.int .i64 1, .int .i64 0, .int .i64 5000] d hu (by cases d <;> simp_all) ap_size (fun j v hv => by
      rw [cell_of_row w g (0 + j) _ T fr hg, Nat.zero_add]
      rcases j with _ | _ | _ | j
      · rw [h0]; exact hv
      · rw [h1]; exact hv
      · rw [h2]; exact hv
      · cases hv)
    exact this
set_option maxHeartbeats 4000000 in
theorem same_one (g g2 c c2 : Nat) (w : World) (h : One w g) (h2 : One w g2) : Calls Tryz.prog 28 #[.slice (some ⟨g, 0, none⟩) 1 c, .slice (some ⟨g2, 0, none⟩) 1 c2] w fun e w' => e = .returned (.bool true) ∧ Below w.heap.size w w' := by
  have H1 := Lib.hid (fun W (hb : Below w.heap.size w W) => One.load (g := g) (w := W) (by obtain ⟨cur, T, fr, hg, hc⟩ := h; exact ⟨cur, T, fr, blk_none hg (gb_below hb), hc⟩))
  have H2 := Lib.hid (fun W (hb : Below w.heap.size w W) => One.load (g := g2) (w := W) (by obtain ⟨cur, T, fr, hg, hc⟩ := h2; exact ⟨cur, T, fr, blk_none hg (gb_below hb), hc⟩))
  have hne := ap_neq
  have hgd := ap_guard
  generalize apV = AP at H1 H2 hne hgd
  clear h h2
  go_enter Tryz.func28, Tryz.ntmps28
  go_wp2
  go_loopg [5] 1 (fun n vi wr => ∃ k : Nat, vi = .int .i64 k ∧ k ≤ 1 ∧ 1 - k ≤ n ∧ Hid (Below w.heap.size w wr))
  case atStart => exact ⟨0, rfl, by omega, by omega, Lib.hid (bl_refl w)⟩
  case round =>
    obtain ⟨k, rfl, hk, hg, HB⟩ := hrel
    by_cases hlt : k < 1
    · obtain rfl : k = 0 := by omega
      go_upto_region 6 with fail
      have hz : (0 : Int) < 1 := by omega
      refine wp_region_heldE (S := fun W1 => Below w.heap.size w W1) (ds := []) (by kernel_rfl) (bl_drew HB.out) (fun hHeld => ?_)
      refine wpAnyE_take (i := 0) (oi := ({ dst := some 17, op := Op.move (Operand.tmp 0), type := 39, pos := "lists.go:250", after := #[], guard := none } : Oper)) (v := ?_) rfl (by kernel_rfl) (by kernel_rfl) (by kernel_rfl) (by kernel_rfl) (fun _ _ _ h => h) (Or.inl ⟨by rfl, ?_⟩) hHeld ?_
      rotate_left
      · intro w' hSw; (try dsimp only at hSw); go_simp <;> with_reducible rfl
      try simp only [Act.put, List.setIfInBounds_toArray, List.set_cons_zero, List.set_cons_succ]
      refine wpAnyE_take (i := 1) (oi := ({ dst := some 18, op := Op.move (Operand.tmp 5), type := 3, pos := "lists.go:250", after := #[], guard := none } : Oper)) (v := ?_) rfl (by kernel_rfl) (by kernel_rfl) (by kernel_rfl) (by kernel_rfl) (fun _ _ _ h => h) (Or.inl ⟨by rfl, ?_⟩) hHeld ?_
      rotate_left
      · intro w' hSw; (try dsimp only at hSw); go_simp <;> with_reducible rfl
      try simp only [Act.put, List.setIfInBounds_toArray, List.set_cons_zero, List.set_cons_succ]
      refine wpAnyE_take (i := 2) (oi := ({ dst := some 19, op := Op.indexAddr 39 (Operand.tmp 17) (Operand.tmp 18), type := 0, pos := "lists.go:250", after := #[{ on := 0, ground := Ground.data }, { on := 1, ground := Ground.data }], guard := none } : Oper)) (v := ?_) rfl (by kernel_rfl) (by kernel_rfl) (by kernel_rfl) (by kernel_rfl) (fun _ _ _ h => h) (Or.inl ⟨by rfl, ?_⟩) hHeld ?_
      rotate_left
      · intro w' hSw; (try dsimp only at hSw); go_simp <;> with_reducible rfl
      try simp only [Act.put, List.setIfInBounds_toArray, List.set_cons_zero, List.set_cons_succ]
      refine wpAnyE_take (i := 3) (oi := ({ dst := some 20, op := Op.load 76 (Operand.tmp 19), type := 76, pos := "lists.go:250", after := #[{ on := 2, ground := Ground.data }], guard := none } : Oper)) (v := AP) rfl (by kernel_rfl) (by kernel_rfl) (by kernel_rfl) (by kernel_rfl) (fun _ _ _ h => h) (yieldsIf_load_known (by rfl) 76 (Operand.tmp 19) rfl ⟨g, 0, none⟩ (AP) rfl (fun w' h => H1.out w' h)) hHeld ?_
      try simp only [Act.put, List.setIfInBounds_toArray, List.set_cons_zero, List.set_cons_succ]
      refine wpAnyE_take (i := 4) (oi := ({ dst := some 21, op := Op.move (Operand.tmp 1), type := 39, pos := "lists.go:250", after := #[], guard := none } : Oper)) (v := ?_) rfl (by kernel_rfl) (by kernel_rfl) (by kernel_rfl) (by kernel_rfl) (fun _ _ _ h => h) (Or.inl ⟨by rfl, ?_⟩) hHeld ?_
      rotate_left
      · intro w' hSw; (try dsimp only at hSw); go_simp <;> with_reducible rfl
      try simp only [Act.put, List.setIfInBounds_toArray, List.set_cons_zero, List.set_cons_succ]
      refine wpAnyE_take (i := 5) (oi := ({ dst := some 22, op := Op.move (Operand.tmp 5), type := 3, pos := "lists.go:250", after := #[], guard := none } : Oper)) (v := ?_) rfl (by kernel_rfl) (by kernel_rfl) (by kernel_rfl) (by kernel_rfl) (fun _ _ _ h => h) (Or.inl ⟨by rfl, ?_⟩) hHeld ?_
      rotate_left
      · intro w' hSw; (try dsimp only at hSw); go_simp <;> with_reducible rfl
      try simp only [Act.put, List.setIfInBounds_toArray, List.set_cons_zero, List.set_cons_succ]
      refine wpAnyE_take (i := 6) (oi := ({ dst := some 23, op := Op.indexAddr 39 (Operand.tmp 21) (Operand.tmp 22), type := 0, pos := "lists.go:250", after := #[{ on := 4, ground := Ground.data }, { on := 5, ground := Ground.data }], guard := none } : Oper)) (v := ?_) rfl (by kernel_rfl) (by kernel_rfl) (by kernel_rfl) (by kernel_rfl) (fun _ _ _ h => h) (Or.inl ⟨by rfl, ?_⟩) hHeld ?_
      rotate_left
      · intro w' hSw; (try dsimp only at hSw); go_simp <;> with_reducible rfl
      try simp only [Act.put, List.setIfInBounds_toArray, List.set_cons_zero, List.set_cons_succ]
      refine wpAnyE_take (i := 7) (oi := ({ dst := some 24, op := Op.load 76 (Operand.tmp 23), type := 76, pos := "lists.go:250", after := #[{ on := 6, ground := Ground.data }], guard := none } : Oper)) (v := AP) rfl (by kernel_rfl) (by kernel_rfl) (by kernel_rfl) (by kernel_rfl) (fun _ _ _ h => h) (yieldsIf_load_known (by rfl) 76 (Operand.tmp 23) rfl ⟨g2, 0, none⟩ (AP) rfl (fun w' h => H2.out w' h)) hHeld ?_
      try simp only [Act.put, List.setIfInBounds_toArray, List.set_cons_zero, List.set_cons_succ]
      refine wpAnyE_take (i := 8) (oi := ({ dst := some 25, op := Op.binOp BinOp.neq 76 (Operand.tmp 20) (Operand.tmp 24) 76, type := 4, pos := "lists.go:250", after := #[{ on := 3, ground := Ground.data }, { on := 7, ground := Ground.data }], guard := none } : Oper)) (v := ?_) rfl (by kernel_rfl) (by kernel_rfl) (by kernel_rfl) (by kernel_rfl) (fun _ _ _ h => h) (Or.inl ⟨by rfl, ?_⟩) hHeld ?_
      rotate_left
      · intro w' hSw; (try dsimp only at hSw); go_simp <;> with_reducible rfl
      try simp only [Act.put, List.setIfInBounds_toArray, List.set_cons_zero, List.set_cons_succ]
      refine wpAnyE_done (by kernel_rfl) ?_ _
      go_wp2
      go_roundg 0
      case measure => omega
      case rel => exact ⟨1, by go_num, by omega, by omega, Lib.hid hHeld⟩
    · obtain rfl : k = 1 := by omega
      go_wp2
      go_ret
      exact ⟨rfl, HB.out⟩
end Go.Proofs.YtphabkaiheplpaaGreatDoor
