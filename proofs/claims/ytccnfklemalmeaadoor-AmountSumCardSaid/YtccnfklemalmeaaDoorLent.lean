/- The kit's lists of whole numbers that are lent with marks in their spare room: FullX, LentX, KeptFullX, KeptX by contracts. -/
import Derived.Test.YtccnfklemalmeaaDoorSumImpl
import Derived.Laws.AppendOwn
import Derived.Laws.OwnMore
import Derived.Below
set_option linter.unusedVariables false
set_option linter.unusedSimpArgs false
set_option maxRecDepth 100000
namespace Go.Proofs.YtccnfklemalmeaaDoor
open Go.RowKit

theorem ow_nil (W : World) (base : Nat) (e : TypeId) (size : Nat) : W.ownsRow base e size (.slice none 0 0) 0 [] := ⟨by simp, .inl ⟨rfl, rfl⟩⟩
theorem ow_base {w : World} {base : Nat} {e : TypeId} {size n : Nat} {v : Value} {xs : List Value} (h : w.ownsRow base e size v n xs) (k : Nat) (hk : v.ownBlock = some k) : base ≤ k := by
  rcases h.2 with ⟨rfl, _⟩ | ⟨g, cap, cur, rfl, hb, _⟩
  · simp [Value.ownBlock] at hk
  · have : g = k := by simpa [Value.ownBlock] using hk
    omega
/-- Old memory stays where an owned row has grown. -/
theorem ow_below {w wr w1 : World} {base : Nat} {e : TypeId} {size n : Nat} {v : Value} {xs : List Value} (o : Obj) (h : wr.ownsRow base e size v n xs) (hb : Below base w wr) (hB : base ≤ wr.heap.size) (hg : (wr.alloc o).grownBy w1 v.ownBlock) : Below base w w1 :=
  (hb.alloc hB o).grown hg (by simp; omega) (fun k hk => ow_base h k hk)
theorem ow_slice {w : World} {base n : Nat} {e : TypeId} {size : Nat} {v : Value} {xs : List Value} (h : w.ownsRow base e size v n xs) : ∃ A c, v = .slice A n c := by
  rcases h.2 with ⟨rfl, rfl⟩ | ⟨g, cap, cur, rfl, _⟩
  · exact ⟨none, 0, rfl⟩
  · exact ⟨_, cap, rfl⟩
/-- A counter, at most n. -/
def Upto (n : Nat) (v : Value) : Prop := ∃ k : Nat, k ≤ n ∧ v = .int .i64 k
def ints (k : IntKind) (xs : List Int) : List Value := xs.map fun x => .int k x
theorem ints_at (k : IntKind) (xs : List Int) {j : Nat} (h : j < xs.length) : (ints k xs)[j]? = some (.int k (xs.getD j 0)) := by
  simp [ints, List.getElem?_eq_getElem h, List.getD_eq_getElem?_getD]
theorem ints_length (k : IntKind) (xs : List Int) : (ints k xs).length = xs.length := by simp [ints]
theorem ints_append (k : IntKind) (xs ys : List Int) : ints k (xs ++ ys) = ints k xs ++ ints k ys := by simp [ints]
theorem ints_snoc (k : IntKind) (zs : List Int) {i : Nat} (h : i < zs.length) : ints k (zs.take i) ++ [.int k (zs.getD i 0)] = ints k (zs.take (i + 1)) := by
  rw [take_next zs i h, ints_append]
  rfl

theorem A_infoLongs : (Tryd.prog.info? 2).map (fun i => (i.zero, i.size, i.bytes)) = some (some (.int .i64 0), 1, 8) := by kernel_rfl
/-- The marks behind a lent list. -/
def marksLongs (m : Nat) : List Int := (List.range m).map fun (i : Nat) => 91000273 + (i : Int)
theorem marksLongs_snoc (m : Nat) : marksLongs m ++ [91000273 + (m : Int)] = marksLongs (m + 1) := by simp [marksLongs, List.range_succ]
theorem markLongs (i : Int) (h0 : -140737488355328 ≤ i) (h1 : i ≤ 140737488355328) (w : World) : Calls Tryd.prog 83 #[.int .i64 90, .int .i64 i] w fun e w' => e = .returned (.int .i64 (91000273 + i)) ∧ w = w' := by
  go_enter Tryd.func83, Tryd.ntmps83
  go_wp2
  go_ret
  exact ⟨rfl, rfl⟩
theorem fullLongs (A0 : Option Addr) (n c : Nat) (zs : List Int) (w : World) (hr : RdI w .i64 A0 n zs) (hn : n * 8 ≤ 140737488351232) :
    Calls Tryd.prog 51 #[.slice A0 n c] w fun e w' => ∃ v, e = .returned v ∧ w'.ownsRow w.heap.size 2 1 v (n + 16) (ints .i64 (zs ++ marksLongs 16)) ∧ Below w.heap.size w w' := by
  have hl := hr.1
  obtain ⟨i0, hi, hz0, hz1, hz2⟩ := info_parts A_infoLongs
  go_enter Tryd.func51, Tryd.ntmps51
  go_wp2
  go_loopw [3, 4] (fun v i wr => ∃ k : Nat, k ≤ n ∧ i = .int .i64 k ∧ wr.ownsRow w.heap.size 2 1 v k (ints .i64 (zs.take k)) ∧ Below w.heap.size w wr) (fun _ i _ => n - (intOf i).toNat)
  case atStart => exact ⟨0, Nat.zero_le _, rfl, ow_nil _ _ _ _, bl_refl w⟩
  case round =>
    obtain ⟨k, hk, rfl, hown, hb⟩ := hrel
    by_cases hlt : k < n
    · obtain ⟨ad, rfl, hcell⟩ := (hr.below hb).at_ hlt
      have hs := ints_snoc .i64 zs (show k < zs.length by omega)
      generalize zs.getD k 0 = x at hcell hs
      have HS := Lib.hid hs
      clear hs
      have hsz := hb.size
      obtain ⟨A1, c1, rfl⟩ := ow_slice hown
      go_wp2_with (at_builtin; refine wpList_append_own _ rfl _ _ 30 rfl w.heap.size 2 i0 (.int .i64 0) 1 8 Tryd.underlying30 hi hz0 hz1 hz2 rfl (by decide) _ _ _ rfl (hown.alloc _) ⟨wr.heap.size, 0, none⟩ 1 1 [.int .i64 x] rfl rfl ?c1 ?c2 ?c3 ?c4 ?c5 ?_)
      case c1 => exact cell_one_new _ _ _
      case c2 => simp [Value.oneCell']
      case c3 => simp only [maxLen]; omega
      case c4 => omega
      case c5 => simp; omega
      intro v' w1 hown' hgrow _
      rw [HS.out] at hown'
      have hb1 := ow_below _ hown hb hsz hgrow
      clear hown hgrow hcell
      go_wp2
      go_roundw
      case rel => exact ⟨k + 1, by omega, by go_num, hown', hb1⟩
      case measure => simp [intOf]; omega
    · obtain rfl : k = n := by omega
      rw [List.take_of_length_le (by omega)] at hown
      obtain ⟨wo, rfl⟩ : ∃ wo : World, wo = wr := ⟨_, rfl⟩
      go_wp2
      go_loopw [3, 5] (fun v i wr => ∃ m : Nat, m ≤ 16 ∧ i = .int .i64 m ∧ wr.ownsRow w.heap.size 2 1 v (k + m) (ints .i64 (zs ++ marksLongs m)) ∧ Below w.heap.size w wr) (fun _ i _ => 16 - (intOf i).toNat)
      case atStart => exact ⟨0, Nat.zero_le _, rfl, by simpa [marksLongs] using hown, hb⟩
      case round =>
        clear hown hb
        obtain ⟨m, hm, rfl, hown, hb⟩ := hrel
        by_cases hlt : m < 16
        · have hs : ints .i64 (zs ++ marksLongs m) ++ [.int .i64 (91000273 + (m : Int))] = ints .i64 (zs ++ marksLongs (m + 1)) := by rw [← marksLongs_snoc, ← List.append_assoc, ints_append _ (zs ++ marksLongs m)]; rfl
          have HS := Lib.hid hs
          clear hs
          have hsz := hb.size
          obtain ⟨A1, c1, rfl⟩ := ow_slice hown
          go_wp2_with (first | (go_at_call 83; refine (markLongs m (by omega) (by omega) _).mono ?_; rintro e w2 ⟨rfl, rfl⟩) | (at_builtin; refine wpList_append_own _ rfl _ _ 30 rfl w.heap.size 2 i0 (.int .i64 0) 1 8 Tryd.underlying30 hi hz0 hz1 hz2 rfl (by decide) _ _ _ rfl (hown.alloc _) ⟨wr.heap.size, 0, none⟩ 1 1 [.int .i64 (91000273 + (m : Int))] rfl rfl ?c1 ?c2 ?c3 ?c4 ?c5 ?_))
          case c1 => exact cell_one_new _ _ _
          case c2 => simp [Value.oneCell']
          case c3 => simp only [maxLen]; omega
          case c4 => omega
          case c5 => simp; omega
          intro v' w1 hown' hgrow _
          rw [HS.out] at hown'
          have hb1 := ow_below _ hown hb hsz hgrow
          clear hown hgrow
          go_wp2
          go_roundw
          case rel => exact ⟨m + 1, by omega, by go_num, hown', hb1⟩
          case measure => simp [intOf]; omega
        · obtain rfl : m = 16 := by omega
          go_wp2
          go_ret
          exact ⟨_, rfl, hown, hb⟩
/-- LentX: the list at the head of a block of its own, 16 marks in its spare room. -/
def LentLongs (w' : World) (B : Nat) (v : Value) (zs : List Int) : Prop := ∃ g cap, v = .slice (some ⟨g, 0, none⟩) zs.length cap ∧ B ≤ g ∧ zs.length + 16 ≤ cap ∧ w'.ownsRow B 2 1 (.slice (some ⟨g, 0, none⟩) (zs.length + 16) cap) (zs.length + 16) (ints .i64 (zs ++ marksLongs 16))
theorem lentLongs (A0 : Option Addr) (n c : Nat) (zs : List Int) (w : World) (hr : RdI w .i64 A0 n zs) (hn : n * 8 ≤ 140737488351232) :
    Calls Tryd.prog 17 #[.slice A0 n c] w fun e w' => ∃ v, e = .returned v ∧ LentLongs w' w.heap.size v zs ∧ Below w.heap.size w w' := by
  have hl := hr.1
  go_enter Tryd.func17, Tryd.ntmps17
  go_wp2_with (go_at_call 51; refine (fullLongs A0 n c zs _ hr hn).mono ?_; rintro e w1 ⟨v, rfl, hown, hb⟩; obtain ⟨g, cap, rfl, _, _⟩ := hown.form (by omega); have hcap : n + 16 ≤ cap := (hown.2.resolve_left (by simp)).elim fun g' h => by obtain ⟨cap', cur, he, _, _, h1, _⟩ := h; injection he with _ _ e3; omega)
  go_ret
  subst hl
  exact ⟨_, rfl, ⟨g, cap, rfl, ow_base hown g rfl, hcap, hown⟩, hb⟩
theorem markLongs_at (zs : List Int) {i : Nat} (h : i < zs.length + 16) : (zs ++ marksLongs 16).getD i 0 = if i < zs.length then zs.getD i 0 else 91000273 + ((i : Int) - (zs.length : Int)) := by
  rw [List.getD_eq_getElem?_getD, List.getD_eq_getElem?_getD, List.getElem?_append]
  by_cases hi : i < zs.length
  · rw [if_pos hi, if_pos hi]
  · rw [if_neg hi, if_neg hi]
    simp only [marksLongs, List.getElem?_map]
    rw [List.getElem?_range (by omega)]
    simp
    omega
theorem keptFullLongs (A0 : Option Addr) (n0 c0 : Nat) (A1 : Option Addr) (n c : Nat) (zs : List Int) (w : World) (hn : n * 8 ≤ 140737488351232) (hn0 : n0 = n + 16) (hr0 : RdI w .i64 A0 n0 (zs ++ marksLongs 16)) (hr1 : RdI w .i64 A1 n zs) :
    Calls Tryd.prog 53 #[.slice A0 n0 c0, .slice A1 n c] w fun e w' => e = .returned (.bool true) ∧ w = w' := by
  have hl := hr1.1
  subst hn0
  have ht : (((n : Int) + 16) != (n : Int) + 16) = false := by simp
  go_enter Tryd.func53, Tryd.ntmps53
  go_wp2
  go_loop [5] (fun i => Upto (n + 16) i) (fun i => n + 16 - (intOf i).toNat)
  case atStart => exact ⟨0, Nat.zero_le _, rfl⟩
  case round =>
    obtain ⟨k, hk, rfl⟩ := hrel
    by_cases hlt : k < n + 16
    · obtain ⟨ad, rfl, hcell⟩ := hr0.at_ (show k < n + 16 by omega)
      rw [markLongs_at zs (show k < zs.length + 16 by omega), hl] at hcell
      have hlt0 : (k : Int) < (n : Int) + 16 := by omega
      by_cases h2 : k < n
      · rw [if_pos h2] at hcell
        obtain ⟨ad1, rfl, hcell1⟩ := hr1.at_ h2
        generalize zs.getD k 0 = x at hcell hcell1
        have hx : (x != x) = false := by simp
        clear hr0 hr1
        go_wp2_with (go_at_call 83; refine (markLongs _ (by omega) (by omega) _).mono ?_; rintro e w2 ⟨rfl, rfl⟩)
        go_round
        case rel => exact ⟨k + 1, by omega, by go_num⟩
        case measure => simp [intOf]; omega
      · rw [if_neg h2] at hcell
        generalize hx0 : 91000273 + ((k : Int) - (n : Int)) = x at hcell
        have hx : (x != x) = false := by simp
        clear hr0 hr1
        go_wp2_with (go_at_call 83; refine (markLongs _ (by omega) (by omega) _).mono ?_; rw [hx0]; rintro e w2 ⟨rfl, rfl⟩)
        go_round
        case rel => exact ⟨k + 1, by omega, by go_num⟩
        case measure => simp [intOf]; omega
    · obtain rfl : k = n + 16 := by omega
      go_wp2
      go_ret
      exact ⟨rfl, rfl⟩
theorem LentLongs.rd {w : World} {B : Nat} {v : Value} {zs : List Int} (h : LentLongs w B v zs) (hn : zs.length * 8 ≤ 140737488351232) : ∃ A c, v = .slice A zs.length c ∧ RdI w .i64 A zs.length zs ∧ zs.length ≤ c := by
  obtain ⟨g, cap, rfl, hB, hcap, hown⟩ := h
  refine ⟨_, _, rfl, ⟨rfl, by omega, fun _ => ⟨_, rfl, fun j hj => hown.cells (g := g) rfl j _ ?_⟩⟩, by omega⟩
  rw [ints_at _ _ (by simp; omega), markLongs_at zs (by omega), if_pos hj]
theorem LentLongs.below {w w1 : World} {B : Nat} {v : Value} {zs : List Int} (h : LentLongs w B v zs) (hb : Below w.heap.size w w1) : LentLongs w1 B v zs := by
  obtain ⟨g, cap, rfl, hB, hcap, hown⟩ := h
  exact ⟨g, cap, rfl, hB, hcap, hown.kept ⟨hb.os, hb.tape, hb.output, hb.size, fun i hi _ => hb.block i hi⟩ (row := none) (by simp [Value.ownBlock])⟩
theorem keptLongs (v : Value) (A1 : Option Addr) (n c : Nat) (zs : List Int) (B : Nat) (w : World) (hn : n * 8 ≤ 140737488351232) (hv : LentLongs w B v zs) (hr1 : RdI w .i64 A1 n zs) :
    Calls Tryd.prog 19 #[v, .slice A1 n c] w fun e w' => e = .returned (.bool true) ∧ w = w' := by
  have hl := hr1.1
  obtain ⟨g, cap, rfl, hB, hcap, hown⟩ := hv
  rw [hl] at hown hcap ⊢
  have hrd : RdI w .i64 (some ⟨g, 0, none⟩) (n + 16) (zs ++ marksLongs 16) := by
    refine ⟨by simp [marksLongs, hl], by omega, fun _ => ⟨_, rfl, fun j hj => hown.cells (g := g) rfl j _ ?_⟩⟩
    exact ints_at _ _ (by simp [marksLongs, hl]; omega)
  clear hown
  have ht : ((n : Int) != (n : Int)) = false := by simp
  have hc16 : (n : Int) + 16 ≤ (cap : Int) := by omega
  go_enter Tryd.func19, Tryd.ntmps19
  go_wp2_with (go_at_call 53; refine (keptFullLongs _ (n + 16) _ _ n c zs _ hn rfl hrd hr1).mono ?_; rintro e w2 ⟨rfl, rfl⟩)
  go_ret
  exact ⟨rfl, rfl⟩
end Go.Proofs.YtccnfklemalmeaaDoor
