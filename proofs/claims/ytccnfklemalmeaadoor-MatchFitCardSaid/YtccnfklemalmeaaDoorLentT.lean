/- The kit's lists of texts that are lent with marks in their spare room: FullTexts, LentTexts, KeptFullTexts, KeptTexts by contracts. -/
import Derived.Test.YtccnfklemalmeaaDoorFit
import Derived.Test.YtccnfklemalmeaaDoorPDeskWordsx5
import Derived.Laws.AppendOwn
import Derived.Laws.OwnMore
import Derived.Below
set_option linter.unusedVariables false
set_option linter.unusedSimpArgs false
set_option maxRecDepth 100000
namespace Go.Proofs.YtccnfklemalmeaaDoor
open Go.RowKit Go.Proofs.YtccnfklemalmeaaDoorW.PrintWords Go.Proofs.YtccnfklemalmeaaDoorW.PrintLast Go.Proofs.YtccnfklemalmeaaDoorW.PrintMore

theorem ow_nil (W : World) (base : Nat) (e : TypeId) (size : Nat) : W.ownsRow base e size (.slice none 0 0) 0 [] := ⟨by simp, .inl ⟨rfl, rfl⟩⟩
theorem ow_base {w : World} {base : Nat} {e : TypeId} {size n : Nat} {v : Value} {xs : List Value} (h : w.ownsRow base e size v n xs) (k : Nat) (hk : v.ownBlock = some k) : base ≤ k := by
  rcases h.2 with ⟨rfl, _⟩ | ⟨g, cap, cur, rfl, hb, _⟩
  · simp [Value.ownBlock] at hk
  · have : g = k := by simpa [Value.ownBlock] using hk
    omega
/-- Old memory stays where an owned row has grown. -/
theorem ow_below {w wr w1 : World} {base : Nat} {e : TypeId} {size n : Nat} {v : Value} {xs : List Value} (o : Obj) (h : wr.ownsRow base e size v n xs) (hb : Below base w wr) (hB : base ≤ wr.heap.size) (hg : (wr.alloc o).grownBy w1 v.ownBlock) : Below base w w1 :=
  (hb.alloc hB o).grown hg (by simp; omega) (fun k hk => ow_base h k hk)
theorem ow_slice {w : World} {base n : Nat} {e : TypeId} {size : Nat} {v : Value} {xs : List Value} (h : w.ownsRow base e size v n xs) : ∃ A c, v = .slice A n c := by
  rcases h.2 with ⟨rfl, rfl⟩ | ⟨g, cap, cur, rfl, _⟩
  · exact ⟨none, 0, rfl⟩
  · exact ⟨_, cap, rfl⟩
theorem ow_then {w w1 : World} {base n : Nat} {e : TypeId} {size : Nat} {v : Value} {xs : List Value} (h : w.ownsRow base e size v n xs) (hb : Below w.heap.size w w1) : w1.ownsRow base e size v n xs :=
  h.kept ⟨hb.os, hb.tape, hb.output, hb.size, fun i hi _ => hb.block i hi⟩ (row := none) (by by_cases h : v.ownBlock = none <;> simp [h])
theorem bl_later {B : Nat} {w w1 w2 : World} (h : Below B w w1) (hB : B ≤ w1.heap.size) (k : Below w1.heap.size w1 w2) : Below B w w2 :=
  h.trans ⟨k.os, k.tape, k.output, k.size, fun i hi => k.block i (Nat.lt_of_lt_of_le hi hB)⟩
/-- A mark. -/
def mkI (a b : Int) : ByteArray := strOfNums [35, a % 256, (a / 256) % 256, b % 256, (b / 256) % 256]
theorem mkI_any (a b : Int) (w : World) : Calls Tryd.prog 66 #[.int .i64 a, .int .i64 b] w fun e w' => e = .returned (.string (mkI a b)) ∧ Below w.heap.size w w' :=
  Go.Proofs.YtccnfklemalmeaaDoor.PDeskWords.custodykit_markTexts.calls a b (mkI a b) w rfl
def strs (xs : List ByteArray) : List Value := xs.map fun x => .string x
theorem strs_append (xs ys : List ByteArray) : strs (xs ++ ys) = strs xs ++ strs ys := by simp [strs]
theorem strs_snoc (zs : List ByteArray) {i : Nat} (h : i < zs.length) : strs (zs.take i) ++ [.string (zs.getD i ⟨#[]⟩)] = strs (zs.take (i + 1)) := by
  rw [List.take_succ_eq_append_getElem h, strs_append, List.getD_eq_getElem?_getD, List.getElem?_eq_getElem h]
  rfl
theorem strs_at (xs : List ByteArray) {j : Nat} (h : j < xs.length) : (strs xs)[j]? = some (.string (xs.getD j ⟨#[]⟩)) := by
  simp [strs, List.getElem?_eq_getElem h, List.getD_eq_getElem?_getD]
def markT (m : Nat) : List ByteArray := (List.range m).map fun (i : Nat) => mkI 90 (i : Int)
theorem markT_snoc (m : Nat) : markT m ++ [mkI 90 (m : Int)] = markT (m + 1) := by simp [markT, List.range_succ]
theorem markT_at (zs : List ByteArray) {i : Nat} (h : i < zs.length + 16) : (zs ++ markT 16).getD i ⟨#[]⟩ = if i < zs.length then zs.getD i ⟨#[]⟩ else mkI 90 ((i : Int) - (zs.length : Int)) := by
  rw [List.getD_eq_getElem?_getD, List.getD_eq_getElem?_getD, List.getElem?_append]
  by_cases hi : i < zs.length
  · rw [if_pos hi, if_pos hi]
  · rw [if_neg hi, if_neg hi]
    simp only [markT, List.getElem?_map]
    rw [List.getElem?_range (by omega)]
    simp only [Option.map_some, Option.getD_some]
    congr 1
    omega
/-- A counter, at most n. -/
def Upto (n : Nat) (v : Value) : Prop := ∃ k : Nat, k ≤ n ∧ v = .int .i64 k
theorem A_infoT : (Tryd.prog.info? 9).map (fun i => (i.zero, i.size, i.bytes)) = some (some (.string ⟨#[]⟩), 1, 16) := by kernel_rfl
set_option maxHeartbeats 400000 in
theorem fullTexts (A0 : Option Addr) (n c : Nat) (zs : List ByteArray) (w : World) (hr : RdT w A0 n zs) (hn : n * 16 ≤ 140737488351232) :
    Calls Tryd.prog 57 #[.slice A0 n c] w fun e w' => ∃ v, e = .returned v ∧ w'.ownsRow w.heap.size 9 1 v (n + 16) (strs (zs ++ markT 16)) ∧ Below w.heap.size w w' := by
  have hl := hr.1
  obtain ⟨i0, hi, hz0, hz1, hz2⟩ := info_parts A_infoT
  go_enter Tryd.func57, Tryd.ntmps57
  go_wp2
  go_loopw [3, 4] (fun v i wr => ∃ k : Nat, k ≤ n ∧ i = .int .i64 k ∧ wr.ownsRow w.heap.size 9 1 v k (strs (zs.take k)) ∧ Below w.heap.size w wr) (fun _ i _ => n - (intOf i).toNat)
  case atStart => exact ⟨0, Nat.zero_le _, rfl, ow_nil _ _ _ _, bl_refl w⟩
  case round =>
    obtain ⟨k, hk, rfl, hown, hb⟩ := hrel
    by_cases hlt : k < n
    · obtain ⟨ad, rfl, hcell⟩ := (hr.below hb).at_ hlt
      have hs := strs_snoc zs (show k < zs.length by omega)
      generalize zs.getD k ⟨#[]⟩ = x at hcell hs
      have HS := Lib.hid hs
      clear hs
      have hsz := hb.size
      obtain ⟨A1, c1, rfl⟩ := ow_slice hown
      go_wp2_with (at_builtin; refine wpList_append_own _ rfl _ _ 60 rfl w.heap.size 9 i0 (.string ⟨#[]⟩) 1 16 Tryd.underlying60 hi hz0 hz1 hz2 rfl (by decide) _ _ _ rfl (hown.alloc _) ⟨wr.heap.size, 0, none⟩ 1 1 [.string x] rfl rfl ?c1 ?c2 ?c3 ?c4 ?c5 ?_)
      case c1 => exact cell_one_new _ _ _
      case c2 => simp [Value.oneCell']
      case c3 => simp only [maxLen]; omega
      case c4 => omega
      case c5 => simp; omega
      intro v' w1 hown' hgrow _
      rw [HS.out] at hown'
      have hb1 := ow_below _ hown hb hsz hgrow
      clear hown hgrow hcell
      go_wp2
      go_roundw
      case rel => exact ⟨k + 1, by omega, by go_num, hown', hb1⟩
      case measure => simp [intOf]; omega
    · obtain rfl : k = n := by omega
      rw [List.take_of_length_le (by omega)] at hown
      obtain ⟨wo, rfl⟩ : ∃ wo : World, wo = wr := ⟨_, rfl⟩
      go_wp2
      go_loopw [3, 5] (fun v i wr => ∃ m : Nat, m ≤ 16 ∧ i = .int .i64 m ∧ wr.ownsRow w.heap.size 9 1 v (k + m) (strs (zs ++ markT m)) ∧ Below w.heap.size w wr) (fun _ i _ => 16 - (intOf i).toNat)
      case atStart => exact ⟨0, Nat.zero_le _, rfl, by simpa [markT] using hown, hb⟩
      case round =>
        clear hown hb
        obtain ⟨m, hm, rfl, hown, hb⟩ := hrel
        by_cases hlt : m < 16
        · have hs : strs (zs ++ markT m) ++ [.string (mkI 90 (m : Int))] = strs (zs ++ markT (m + 1)) := by rw [← markT_snoc, ← List.append_assoc, strs_append (zs ++ markT m)]; rfl
          have HM := fun W => mkI_any 90 (m : Int) W
          generalize mkI 90 (m : Int) = x at hs HM
          have HS := Lib.hid hs
          clear hs
          have hsz := hb.size
          obtain ⟨A1, c1, rfl⟩ := ow_slice hown
          go_wp2_with (first | (go_at_call 66; refine (HM _).mono ?_; rintro e w2 ⟨rfl, hb2⟩; have hown2 := ow_then hown hb2; have hbb := bl_later hb hsz hb2; have hsz2 := hbb.size; clear hown hb hb2) | (at_builtin; refine wpList_append_own _ rfl _ _ 60 rfl w.heap.size 9 i0 (.string ⟨#[]⟩) 1 16 Tryd.underlying60 hi hz0 hz1 hz2 rfl (by decide) _ _ _ rfl (hown2.alloc _) ⟨w2.heap.size, 0, none⟩ 1 1 [.string x] rfl rfl ?c6 ?c7 ?c8 ?c9 ?c10 ?_))
          case c6 => exact cell_one_new _ _ _
          case c7 => simp [Value.oneCell']
          case c8 => simp only [maxLen]; omega
          case c9 => omega
          case c10 => simp; omega
          intro v' w1 hown' hgrow _
          rw [HS.out] at hown'
          have hb1 := ow_below _ hown2 hbb hsz2 hgrow
          clear hown2 hgrow hbb
          go_wp2
          go_roundw
          case rel => exact ⟨m + 1, by omega, by go_num, hown', hb1⟩
          case measure => simp [intOf]; omega
        · obtain rfl : m = 16 := by omega
          go_wp2
          go_ret
          exact ⟨_, rfl, hown, hb⟩
/-- LentTexts: the list at the head of a block of its own, 16 marks in its spare room. -/
def LentT (w' : World) (B : Nat) (v : Value) (zs : List ByteArray) : Prop := ∃ g cap, v = .slice (some ⟨g, 0, none⟩) zs.length cap ∧ B ≤ g ∧ zs.length + 16 ≤ cap ∧ w'.ownsRow B 9 1 (.slice (some ⟨g, 0, none⟩) (zs.length + 16) cap) (zs.length + 16) (strs (zs ++ markT 16))
theorem lentTexts (A0 : Option Addr) (n c : Nat) (zs : List ByteArray) (w : World) (hr : RdT w A0 n zs) (hn : n * 16 ≤ 140737488351232) :
    Calls Tryd.prog 29 #[.slice A0 n c] w fun e w' => ∃ v, e = .returned v ∧ LentT w' w.heap.size v zs ∧ Below w.heap.size w w' := by
  have hl := hr.1
  go_enter Tryd.func29, Tryd.ntmps29
  go_wp2_with (go_at_call 57; refine (fullTexts A0 n c zs _ hr hn).mono ?_; rintro e w1 ⟨v, rfl, hown, hb⟩; obtain ⟨g, cap, rfl, _, _⟩ := hown.form (by omega); have hcap : n + 16 ≤ cap := (hown.2.resolve_left (by simp)).elim fun g' h => by obtain ⟨cap', cur, he, _, _, h1, _⟩ := h; injection he with _ _ e3; omega)
  go_ret
  subst hl
  exact ⟨_, rfl, ⟨g, cap, rfl, ow_base hown g rfl, hcap, hown⟩, hb⟩
set_option maxHeartbeats 400000 in
theorem keptFullTexts (A0 : Option Addr) (n0 c0 : Nat) (A1 : Option Addr) (n c : Nat) (zs : List ByteArray) (w : World) (hn : n * 16 ≤ 140737488351232) (hn0 : n0 = n + 16) (hr0 : RdT w A0 n0 (zs ++ markT 16)) (hr1 : RdT w A1 n zs) :
    Calls Tryd.prog 60 #[.slice A0 n0 c0, .slice A1 n c] w fun e w' => e = .returned (.bool true) ∧ Below w.heap.size w w' := by
  have hl := hr1.1
  subst hn0
  have ht : (((n : Int) + 16) != (n : Int) + 16) = false := by simp
  go_enter Tryd.func60, Tryd.ntmps60
  go_wp2
  go_loopw [5] (fun i wr => Upto (n + 16) i ∧ Below w.heap.size w wr) (fun i _ => n + 16 - (intOf i).toNat)
  case atStart => exact ⟨⟨0, Nat.zero_le _, rfl⟩, bl_refl w⟩
  case round =>
    obtain ⟨⟨k, hk, rfl⟩, hb⟩ := hrel
    by_cases hlt : k < n + 16
    · have hlt0 : (k : Int) < (n : Int) + 16 := by omega
      have hsz := hb.size
      by_cases h2 : k < n
      · have hx0 := markT_at zs (show k < zs.length + 16 by omega)
        rw [if_pos (by omega)] at hx0
        obtain ⟨ad, rfl, hcell⟩ := (hr0.below hb).at_ (show k < n + 16 by omega)
        rw [hx0] at hcell
        obtain ⟨ad1, rfl, hcell1⟩ := (hr1.below hb).at_ h2
        generalize zs.getD k ⟨#[]⟩ = x at hcell hcell1
        clear hr0 hr1 hx0
        have HM := fun W => mkI_any 90 ((k : Int) - (n : Int)) W
        generalize mkI 90 ((k : Int) - (n : Int)) = y at HM
        go_wp2_with (go_at_call 66; refine (HM _).mono ?_; rintro e w2 ⟨rfl, hb2⟩; have hcell2 := bl_cell hb2 hcell; have hcell3 := bl_cell hb2 hcell1; have hbb := bl_later hb hsz hb2; clear hb hb2)
        go_roundw
        case rel => exact ⟨⟨k + 1, by omega, by go_num⟩, hbb⟩
        case measure => simp [intOf]; omega
      · have hx0 := markT_at zs (show k < zs.length + 16 by omega)
        rw [if_neg (by omega), hl] at hx0
        obtain ⟨ad, rfl, hcell⟩ := (hr0.below hb).at_ (show k < n + 16 by omega)
        rw [hx0] at hcell
        clear hr0 hr1 hx0
        have HM := fun W => mkI_any 90 ((k : Int) - (n : Int)) W
        generalize mkI 90 ((k : Int) - (n : Int)) = y at HM hcell
        go_wp2_with (go_at_call 66; refine (HM _).mono ?_; rintro e w2 ⟨rfl, hb2⟩; have hcell2 := bl_cell hb2 hcell; have hbb := bl_later hb hsz hb2; clear hb hb2)
        go_roundw
        case rel => exact ⟨⟨k + 1, by omega, by go_num⟩, hbb⟩
        case measure => simp [intOf]; omega
    · obtain rfl : k = n + 16 := by omega
      go_wp2
      go_ret
      exact ⟨rfl, hb⟩
theorem LentT.rd {w : World} {B : Nat} {v : Value} {zs : List ByteArray} (h : LentT w B v zs) : ∃ A c, v = .slice A zs.length c ∧ RdT w A zs.length zs ∧ zs.length ≤ c := by
  obtain ⟨g, cap, rfl, hB, hcap, hown⟩ := h
  refine ⟨_, _, rfl, ⟨rfl, fun j hj => ⟨_, rfl, hown.cells (g := g) rfl j _ ?_⟩⟩, by omega⟩
  rw [strs_at _ (by simp; omega), markT_at zs (by omega), if_pos hj]
theorem LentT.below {w w1 : World} {B : Nat} {v : Value} {zs : List ByteArray} (h : LentT w B v zs) (hb : Below w.heap.size w w1) : LentT w1 B v zs := by
  obtain ⟨g, cap, rfl, hB, hcap, hown⟩ := h
  exact ⟨g, cap, rfl, hB, hcap, ow_then hown hb⟩
theorem keptTexts (v : Value) (A1 : Option Addr) (n c : Nat) (zs : List ByteArray) (B : Nat) (w : World) (hn : n * 16 ≤ 140737488351232) (hv : LentT w B v zs) (hr1 : RdT w A1 n zs) :
    Calls Tryd.prog 31 #[v, .slice A1 n c] w fun e w' => e = .returned (.bool true) ∧ Below w.heap.size w w' := by
  have hl := hr1.1
  obtain ⟨g, cap, rfl, hB, hcap, hown⟩ := hv
  rw [hl] at hown hcap ⊢
  have hrd : RdT w (some ⟨g, 0, none⟩) (n + 16) (zs ++ markT 16) := by
    refine ⟨by simp [markT, hl], fun j hj => ⟨_, rfl, hown.cells (g := g) rfl j _ ?_⟩⟩
    exact strs_at _ (by simp [markT, hl]; omega)
  clear hown
  have ht : ((n : Int) != (n : Int)) = false := by simp
  have hc16 : (n : Int) + 16 ≤ (cap : Int) := by omega
  go_enter Tryd.func31, Tryd.ntmps31
  go_wp2_with (go_at_call 60; refine (keptFullTexts _ (n + 16) _ _ n c zs _ hn rfl hrd hr1).mono ?_; rintro e w2 ⟨rfl, hb⟩)
  go_ret
  exact ⟨rfl, hb⟩
end Go.Proofs.YtccnfklemalmeaaDoor
