/- Joined texts of this proof: BkPs. -/
import Derived.Outline
import Derived.Deep.LoopGhost
import Derived.Test.YtphabkaiheplpaaGreatDoorRests19
import Derived.Test.YtphabkaiheplpaaGreatDoorRests20
/- (*match.Book).Pairs. -/
set_option linter.unusedVariables false
set_option linter.unusedSimpArgs false
set_option maxRecDepth 100000
namespace Go.Proofs.YtphabkaiheplpaaGreatDoor
open Go.RowKit Go.Shelf Go.Maps

theorem prs_at (ps : List Pr) : ∀ (d j : Nat), d < ps.length → j < 4 → (ps.flatMap prC)[d * 4 + j]? = (prC (ps.getD d pr0))[j]? := by
  induction ps with
  | nil => intro d j h; cases h
  | cons e r ih =>
    intro d j h hj
    cases d with
    | zero =>
      rw [List.flatMap_cons, List.getElem?_append_left (by rw [prC_length]; omega), Nat.zero_mul, Nat.zero_add]
      rfl
    | succ d =>
      rw [List.flatMap_cons, List.getElem?_append_right (by rw [prC_length]; omega), prC_length, show (d + 1) * 4 + j - 4 = d * 4 + j by omega, ih d j (by simpa using h) hj]
      rfl
/-- The pairs that stand. -/
def stand (ps : List Pr) : List Pr := ps.filter fun q => !q.gone
def apC (q : Pr) : List Value := [.int .i64 q.d, .int .i64 q.r, .int .i64 q.a]
theorem stand_next {ps : List Pr} {k : Nat} (h : k < ps.length) : stand (ps.take (k + 1)) = stand (ps.take k) ++ (if (ps.getD k pr0).gone then [] else [ps.getD k pr0]) := by
  unfold stand
  rw [List.take_add_one, List.filter_append, List.getD_eq_getElem?_getD, List.getElem?_eq_getElem h]
  simp only [Option.toList_some, Option.getD_some]
  cases hg : ps[k].gone <;> simp [hg]
theorem infoA : (Tryz.prog.info? 76).map (fun i => (i.zero, i.size, i.bytes)) = some (some (.agg #[.int .i64 0, .int .i64 0, .int .i64 0]), 3, 24) := by kernel_rfl
theorem cells_three {W : World} {g : Nat} {v0 v1 v2 : Value} {T : TypeId} (h : W.heap[g]? = some (.cells #[v0, v1, v2] T (0, 0))) : ∀ j u, [v0, v1, v2][j]? = some u → W.cell? ((⟨g, 0, none⟩ : Addr).add j) = some u := by
  intro j u hj
  rw [Addr.add_lit, Nat.zero_add, cell_of_row W g j _ _ _ h]
  simpa using hj
theorem below_grown {B : Nat} {w W W1 : World} {e : TypeId} {size n : Nat} {v : Value} {xs : List Value} (hb : Below B w W) (h : W.ownsRow B e size v n xs) (hg : W.grownBy W1 v.ownBlock) (hB : B ≤ W.heap.size) : Below B w W1 := by
  have hv : ∀ g, v.ownBlock = some g → B ≤ g := fun g hgv => by
    rcases h.2 with ⟨rfl, _⟩ | ⟨g', cap, cur, rfl, h2, _⟩
    · cases hgv
    · have e1 : g' = g := by simpa [Value.ownBlock] using hgv
      omega
  exact ⟨hg.os.trans hb.os, hg.tape.trans hb.tape, hg.output.trans hb.output, Nat.le_trans hb.size hg.size, fun i hi => (hg.block i (by omega) (fun e1 => by have := hv i e1.symm; omega)).trans (hb.block i hi)⟩
set_option maxHeartbeats 8000000 in
set_option maxRecDepth 1000000 in
theorem pairs_any {F : Nat → Prop} {W : World} {b : Nat} {zs : List ByteArray} {tol : Int} {es : List Ent} {ps : List Pr} (hB : BkI F W b zs tol es ps) (hpl : ps.length ≤ 1000000000000) :
    Calls Tryz.prog 11 #[.pointer (some ⟨b, 0, none⟩)] W fun e w' => ∃ v, e = .returned v ∧ w'.ownsRow W.heap.size 76 3 v (stand ps).length ((stand ps).flatMap apC) ∧ Below W.heap.size W w' := by
  obtain ⟨i0, hi, hz0, hz1, hz2⟩ := Sp.info_of infoA
  obtain ⟨tv, ev, pv, m1, m2, ws, HM, HR, HS, HW, hF⟩ := hB
  obtain ⟨PA, pc, hpv⟩ := ow_slice HM.rP
  subst hpv
  have hBK := HM.book
  have c5 : W.cell? ⟨b, 5, none⟩ = some (.slice PA ps.length pc) := cell_of_row W b 5 _ _ _ hBK
  have HP := Lib.hid HM.rP
  have HPL := Lib.hid hpl
  clear HM HR HS HW hF hBK hpl
  go_enter Tryz.func11, Tryz.ntmps11
  go_wp2
  go_loopg [3, 5, 11] ps.length (fun g v v5 vi wr => ∃ (k : Nat), vi = .int .i64 k ∧ k ≤ ps.length ∧ ps.length - k ≤ g ∧ Hid (wr.ownsRow W.heap.size 76 3 v (stand (ps.take k)).length ((stand (ps.take k)).flatMap apC)) ∧ Hid (Below W.heap.size W wr))
  case atStart => exact ⟨0, rfl, by omega, by omega, Lib.hid (ow_nil _ _ _ _), Lib.hid (bl_refl W)⟩
  case round =>
    obtain ⟨k, rfl, hk, hg, OW, HB⟩ := hrel
    obtain ⟨A1, c1, e1⟩ := ow_slice OW.out
    subst e1
    by_cases hlt : k < ps.length
    · have hltz : (k : Int) < (ps.length : Int) := by omega
      have HP1 := Lib.hid (ow_none HP.out (gb_below HB.out))
      obtain ⟨pg, rfl⟩ := own_addr HP1.out (by omega)
      have cc : ∀ j, j < 4 → wr.cell? ⟨pg, k * 4 + j, none⟩ = (prC (ps.getD k pr0))[j]? := fun j hj => by rw [HP1.out.cellAt (k * 4 + j) (by omega), prs_at ps k j hlt hj]
      have hk63 : (k : Int) + 1 ≤ 2000000000000 := by have := HPL.out; omega
      have NX := Lib.hid (stand_next hlt)
      generalize ps.getD k pr0 = q at cc NX
      have d0 : wr.cell? ⟨pg, k * 4, none⟩ = some (.int .i64 q.d) := cc 0 (by omega)
      have d1 : wr.cell? ⟨pg, k * 4 + 1, none⟩ = some (.int .i64 q.r) := cc 1 (by omega)
      have d2 : wr.cell? ⟨pg, k * 4 + 2, none⟩ = some (.int .i64 q.a) := cc 2 (by omega)
      have d3 : wr.cell? ⟨pg, k * 4 + 3, none⟩ = some (.bool q.gone) := cc 3 (by omega)
      clear cc HP1
      go_upto_region 5 with fail
      have HB3 := Lib.hid (bl_alloc HB.out (.cells #[.int .i64 (q.d : Int), .int .i64 (q.r : Int), .int .i64 q.a, .bool q.gone] 97))
      have OW3 := Lib.hid (ow_none OW.out (gb_below (bl_alloc (bl_refl wr) (.cells #[.int .i64 (q.d : Int), .int .i64 (q.r : Int), .int .i64 q.a, .bool q.gone] 97))))
      have g3 := heap_alloc_new wr (.cells #[.int .i64 (q.d : Int), .int .i64 (q.r : Int), .int .i64 q.a, .bool q.gone] 97)
      clear HB OW d0 d1 d2 d3
      generalize wr.alloc (.cells #[.int .i64 (q.d : Int), .int .i64 (q.r : Int), .int .i64 q.a, .bool q.gone] 97) = W3 at HB3 OW3 g3 ⊢
      generalize wr.heap.size = N at g3 ⊢
      have d0 : W3.cell? ⟨N, 0, none⟩ = some (.int .i64 q.d) := cell_of_row W3 N 0 _ _ _ g3
      have d1 : W3.cell? ⟨N, 1, none⟩ = some (.int .i64 q.r) := cell_of_row W3 N 1 _ _ _ g3
      have d2 : W3.cell? ⟨N, 2, none⟩ = some (.int .i64 q.a) := cell_of_row W3 N 2 _ _ _ g3
      have d3 : W3.cell? ⟨N, 3, none⟩ = some (.bool q.gone) := cell_of_row W3 N 3 _ _ _ g3
      clear g3
      cases hgo : q.gone with
      | true =>
        rw [hgo] at d3
        have NX2 : Hid (stand (ps.take (k + 1)) = stand (ps.take k)) := Lib.hid (by rw [NX.out, hgo]; simp)
        clear NX
        go_wp2
        go_roundg (ps.length - (k + 1))
        case measure => omega
        case rel => exact ⟨k + 1, by go_num, by omega, by omega, Lib.hid (by rw [NX2.out]; exact OW3.out), HB3⟩
      | false =>
        rw [hgo] at d3
        have NX2 : Hid (stand (ps.take (k + 1)) = stand (ps.take k) ++ [q]) := Lib.hid (by rw [NX.out, hgo]; simp)
        clear NX
        have hsl : (stand (ps.take k)).length ≤ ps.length := by
          unfold stand
          exact Nat.le_trans (List.length_filter_le _ _) (by rw [List.length_take]; omega)
        have HSL := Lib.hid hsl
        generalize stand (ps.take k) = L at NX2 OW3 HSL ⊢
        go_wp2_with (at_builtin; have HB4 := Lib.hid (bl_alloc HB3.out (.cells #[.int .i64 (q.d : Int), .int .i64 (q.r : Int), .int .i64 q.a] 76)); have OW4 := Lib.hid (ow_none OW3.out (gb_below (bl_alloc (bl_refl W3) (.cells #[.int .i64 (q.d : Int), .int .i64 (q.r : Int), .int .i64 q.a] 76)))); have HC4 := Lib.hid (heap_alloc_new W3 (.cells #[.int .i64 (q.d : Int), .int .i64 (q.r : Int), .int .i64 q.a] 76)); clear HB3 OW3 d0 d1 d2 d3; generalize W3.alloc (.cells #[.int .i64 (q.d : Int), .int .i64 (q.r : Int), .int .i64 q.a] 76) = W4 at HB4 OW4 HC4 ⊢; generalize W3.heap.size = N4 at HC4 ⊢; refine wpList_append_new rfl (.tmp 18) (.tmp 21) 39 rfl W.heap.size 76 i0 (.agg #[.int .i64 0, .int .i64 0, .int .i64 0]) 3 24 Tryz.underlying39 hi hz0 hz1 hz2 rfl (by decide) (.slice A1 L.length c1) L.length (L.flatMap apC) rfl OW4.out ⟨N4, 0, none⟩ 1 1 (apC q) rfl rfl (cells_three HC4.out) (by simp [apC, Value.oneCell']) (by have := HSL.out; have := HPL.out; unfold maxLen; omega) (by have := HSL.out; have := HPL.out; omega) HB4.out.size (by decide) ?_; intro v' W5 hown hgrow hnew; have HB5 := Lib.hid (below_grown HB4.out OW4.out hgrow HB4.out.size); have OW5 := Lib.hid hown; clear hown hgrow hnew HB4 OW4 HC4)
        go_roundg (ps.length - (k + 1))
        case measure => omega
        case rel => exact ⟨k + 1, by go_num, by omega, by omega, Lib.hid (by rw [NX2.out, List.flatMap_append, List.length_append, show [q].flatMap apC = apC q by simp]; exact OW5.out), HB5⟩
    · have e0 : k = ps.length := by omega
      subst e0
      have HT : Hid (stand (ps.take ps.length) = stand ps) := Lib.hid (by rw [List.take_length])
      generalize stand (ps.take ps.length) = L at HT OW ⊢
      have hL := HT.out
      subst hL
      go_wp2
      go_ret
      exact ⟨_, rfl, OW.out, HB.out⟩
end Go.Proofs.YtphabkaiheplpaaGreatDoor
