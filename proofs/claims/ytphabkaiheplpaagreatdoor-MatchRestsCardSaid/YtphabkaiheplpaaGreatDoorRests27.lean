/- Joined texts of this proof: BkDf. -/
import Derived.Shelf.SlicesE.DeleteFunc
import Derived.Ground.SlgfProg
import Derived.Sort.OwnSortedInts
import Derived.Test.YtphabkaiheplpaaGreatDoorRests26
/- slices.DeleteFunc of one number of a row of one's own, as (*match.Book).Cancel calls it. -/
set_option linter.unusedVariables false
set_option linter.unusedSimpArgs false
set_option maxRecDepth 100000
namespace Go.Proofs.YtphabkaiheplpaaGreatDoor
open Go.RowKit Go.Shelf Go.Maps Go.Sort Go.Lib

def dfRen : Go.Shelf.Ren := ⟨fun | 10 => 34 | 6 => 67 | n => n, fun | 22 => 94 | 23 => 3 | 25 => 100 | 3 => 3 | 4 => 4 | 0 => 0 | n => n, fun | n => n⟩
theorem dfLays : Go.Proofs.SlLaysH.n10 Tryz.prog dfRen := {
  mixed := by kernel_rfl
  f6 := ⟨Tryz.f67.name, by decide, Tryz.func67.trans (congrArg some (by kernel_rfl))⟩
  f10 := ⟨Tryz.f34.name, by decide, Tryz.func34.trans (congrArg some (by kernel_rfl))⟩
  t0 := Tryz.underlying0
  a0 := Tryz.isAgg0
  z0 := Tryz.sizeOf0
  v0 := Tryz.zeroValue0
  t3 := Tryz.underlying3
  a3 := Tryz.isAgg3
  z3 := Tryz.sizeOf3
  v3 := Tryz.zeroValue3
  t4 := Tryz.underlying4
  a4 := Tryz.isAgg4
  z4 := Tryz.sizeOf4
  v4 := Tryz.zeroValue4
  t22 := Tryz.underlying94
  a22 := Tryz.isAgg94
  z22 := Tryz.sizeOf94
  v22 := Tryz.zeroValue94
  a23 := Tryz.isAgg3
  z23 := Tryz.sizeOf3
  t25 := Tryz.underlying100
  a25 := Tryz.isAgg100
  z25 := Tryz.sizeOf100
  v25 := Tryz.zeroValue100 }
/-- The closure: is k the number in the captured cell? -/
theorem isn_gives (n x : Int) (B : Nat) (W : World) (hc : W.cell? ⟨B, 0, none⟩ = some (.int .i64 n)) :
    FnGives Tryz.prog 35 #[.pointer (some ⟨B, 0, none⟩)] #[.int .i64 x] (.bool (x == n)) W := by
  show Calls Tryz.prog 35 #[.int .i64 x, .pointer (some ⟨B, 0, none⟩)] W _
  go_enter Tryz.func35, Tryz.ntmps35
  go_wp2
  go_ret
  exact ⟨rfl, 0, rfl⟩
theorem isn_pred (n : Int) (B : Nat) (w : World) (hB : B < w.heap.size) (hcell : w.cell? ⟨B, 0, none⟩ = some (.int .i64 n)) :
    PredAt Tryz.prog 35 #[.pointer (some ⟨B, 0, none⟩)] (Value.int .i64) (fun x => x == n) w :=
  fun W x hb => isn_gives n x B W ((hb.cell (p := ⟨B, 0, none⟩) hB).trans hcell)
theorem isn_over (n : Int) (B blk off size : Nat) (w : World) (hB : B < w.heap.size) (hne : B ≠ blk) (hcell : w.cell? ⟨B, 0, none⟩ = some (.int .i64 n)) :
    PredOver Tryz.prog 35 #[.pointer (some ⟨B, 0, none⟩)] (Value.int .i64) (fun x => x == n) blk off size w :=
  fun m os dk x _ => isn_gives n x B _ (by
    unfold sortWorld
    rw [cell?_grow _ _ _ (by show B < (putRow _ _ _ _ _).heap.size; rw [size_putRow]; exact hB), cell?_putRow_other _ _ blk off _ _ (Or.inl hne)]
    exact hcell)
theorem filter_map_nat (l : List Nat) (n : Nat) : (l.map fun k : Nat => (k : Int)).filter (fun x => !(x == (n : Int))) = (l.filter (· != n)).map fun k : Nat => (k : Int) := by
  induction l with
  | nil => rfl
  | cons a r ih =>
    rw [List.map_cons, List.filter_cons, List.filter_cons]
    by_cases h : a = n
    · subst h; simp [ih]
    · have h1 : (!((a : Int) == (n : Int))) = true := by simp; omega
      have h2 : (a != n) = true := by simp [h]
      rw [h1, h2, if_pos rfl, if_pos rfl, List.map_cons, ih]
/-- slices.DeleteFunc(v, func(k) { return k == n }). -/
theorem delfunc_row {W : World} {v : Value} {l : List Nat} {n B : Nat} (h : W.ownsRow 0 3 1 v l.length (l.map natV)) (hl : 0 < l.length) (hB : B < W.heap.size) (hc : W.cell? ⟨B, 0, none⟩ = some (natV n)) (hne : v.ownBlock ≠ some B) :
    Calls Tryz.prog 34 #[v, .func (.func 35) #[] #[.pointer (some ⟨B, 0, none⟩)]] W fun e W' => ∃ v', e = .returned v' ∧ v'.ownBlock = v.ownBlock ∧ W.grownBy W' v.ownBlock ∧ W'.ownsRow 0 3 1 v' (l.filter (· != n)).length ((l.filter (· != n)).map natV) := by
  rcases h.2 with ⟨_, h0⟩ | ⟨g, cap, cur, rfl, hb, hg, hnc, hcm, hcs, htake⟩
  · omega
  · have eg : ∀ args w, (callFunc 35 args).run Tryz.prog w = .ok (.enter 35 args) w := enters_of Tryz.func35 (by kernel_rfl) rfl
    have hnb : B ≠ g := fun e => hne (by rw [e]; rfl)
    have hH : Holds (Value.int .i64) W g 0 (l.map fun k : Nat => (k : Int)).toArray := holds_of_blockI hg (by rw [List.length_map, List.map_map]; have := htake; rw [Nat.mul_one] at this; exact this)
    have hcon := AnyE.slices_DeleteFunc dfLays (Value.int .i64) (fun _ => rfl) (fun x => x == (n : Int)) 35 #[.pointer (some ⟨B, 0, none⟩)] eg 0 Tryz.zeroValue3 g 0 cap (l.map fun k : Nat => (k : Int)).toArray W
      (isn_pred n B W hB hc) (isn_over n B g 0 _ W hB hnb hc) hH (by unfold maxLen at hcm; simp; omega) (by simpa using hnc)
    have hlen : (l.map fun k : Nat => (k : Int)).toArray.size = l.length := by simp
    rw [hlen] at hcon
    refine Calls.mono hcon ?_
    rintro e W' ⟨rfl, q, rfl⟩
    have hfl : ((l.map fun k : Nat => (k : Int)).toArray.toList.filter fun x => !(x == (n : Int))) = (l.filter (· != n)).map fun k : Nat => (k : Int) := filter_map_nat l n
    rw [hfl]
    generalize hr : l.filter (· != n) = r
    have hrl : r.length ≤ l.length := by rw [← hr]; exact List.length_filter_le _ _
    rw [List.length_map]
    have hown := ownsRow_sortedI (w := W) (base := 0) (g := g) (cap := cap) (n := q) (e := 3) (os := #[]) (cur := cur) (ss := l.map fun k : Nat => (k : Int)) (ts := (r.map fun k : Nat => (k : Int)) ++ List.replicate (l.length - r.length) 0) (by simp; omega) (Nat.zero_le _) hg (by simpa using hnc) hcm hcs
    have hgr := grownBy_sortedI (w := W) (g := g) (n := q) (os := #[]) ((r.map fun k : Nat => (k : Int)) ++ List.replicate (l.length - r.length) 0).toArray
    rw [grow_empty] at hown hgr
    have hcut := own_cut hown (m := r.length) (by simpa using hrl)
    refine ⟨_, rfl, rfl, hgr, ?_⟩
    have e1 : (List.map (Value.int .i64) ((r.map fun k : Nat => (k : Int)) ++ List.replicate (l.length - r.length) 0)).take (r.length * 1) = r.map natV := by
      rw [List.map_append, List.take_left' (by simp), List.map_map]
      rfl
    rw [e1] at hcut
    exact hcut
end Go.Proofs.YtphabkaiheplpaaGreatDoor
