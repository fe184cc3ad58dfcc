/- The law's own helpers: fit, a list copied, two lists compared. -/
import Derived.Test.YtccnfklemalmeaaShSplitB
import Derived.Laws.AppendOwn
import Derived.Maps.AppendAt
import Derived.Laws.OwnMore
import Derived.Below
set_option linter.unusedVariables false
set_option linter.unusedSimpArgs false
set_option maxRecDepth 100000
namespace Go.Proofs.Ytccnfklemalmeaa
open Go.RowKit Go.Lib

theorem ow_nil (W : World) (base : Nat) (e : TypeId) (size : Nat) : W.ownsRow base e size (.slice none 0 0) 0 [] := ⟨by simp, .inl ⟨rfl, rfl⟩⟩
theorem ow_base {w : World} {base : Nat} {e : TypeId} {size n : Nat} {v : Value} {xs : List Value} (h : w.ownsRow base e size v n xs) (k : Nat) (hk : v.ownBlock = some k) : base ≤ k := by
  rcases h.2 with ⟨rfl, _⟩ | ⟨g, cap, cur, rfl, hb, _⟩
  · simp [Value.ownBlock] at hk
  · have : g = k := by simpa [Value.ownBlock] using hk
    omega
/-- Old memory stays where an owned row has grown. -/
theorem ow_below {w wr w1 : World} {base : Nat} {e : TypeId} {size n : Nat} {v : Value} {xs : List Value} (o : Obj) (h : wr.ownsRow base e size v n xs) (hb : Below base w wr) (hB : base ≤ wr.heap.size) (hg : (wr.alloc o).grownBy w1 v.ownBlock) : Below base w w1 :=
  (hb.alloc hB o).grown hg (by simp; omega) (fun k hk => ow_base h k hk)
theorem ow_slice {w : World} {base n : Nat} {e : TypeId} {size : Nat} {v : Value} {xs : List Value} (h : w.ownsRow base e size v n xs) : ∃ A c, v = .slice A n c := by
  rcases h.2 with ⟨rfl, rfl⟩ | ⟨g, cap, cur, rfl, _⟩
  · exact ⟨none, 0, rfl⟩
  · exact ⟨_, cap, rfl⟩
/-- A counter, at most n. -/
def Upto (n : Nat) (v : Value) : Prop := ∃ k : Nat, k ≤ n ∧ v = .int .i64 k
def ints (k : IntKind) (xs : List Int) : List Value := xs.map fun x => .int k x
theorem ints_at (k : IntKind) (xs : List Int) {j : Nat} (h : j < xs.length) : (ints k xs)[j]? = some (.int k (xs.getD j 0)) := by
  simp [ints, List.getElem?_eq_getElem h, List.getD_eq_getElem?_getD]
theorem ints_length (k : IntKind) (xs : List Int) : (ints k xs).length = xs.length := by simp [ints]
theorem ints_append (k : IntKind) (xs ys : List Int) : ints k (xs ++ ys) = ints k xs ++ ints k ys := by simp [ints]
theorem ints_snoc (k : IntKind) (zs : List Int) {i : Nat} (h : i < zs.length) : ints k (zs.take i) ++ [.int k (zs.getD i 0)] = ints k (zs.take (i + 1)) := by
  rw [take_next zs i h, ints_append]
  rfl

theorem A_infoLongs : (Try.prog.info? 2).map (fun i => (i.zero, i.size, i.bytes)) = some (some (.int .i64 0), 1, 8) := by kernel_rfl
theorem copyLongs (A0 : Option Addr) (n c : Nat) (zs : List Int) (w : World) (hr : RdI w .i64 A0 n zs) (hn : n * 8 ≤ 140737488351232) :
    Calls Try.prog 8 #[.slice A0 n c] w fun e w' => ∃ v, e = .returned v ∧ w'.ownsRow w.heap.size 2 1 v n (ints .i64 zs) ∧ Below w.heap.size w w' := by
  have hl := hr.1
  obtain ⟨i0, hi, hz0, hz1, hz2⟩ := info_parts A_infoLongs
  go_enter Try.func8, Try.ntmps8
  go_wp2
  go_loopw [3, 4] (fun v i wr => ∃ k : Nat, k ≤ n ∧ i = .int .i64 k ∧ wr.ownsRow w.heap.size 2 1 v k (ints .i64 (zs.take k)) ∧ Below w.heap.size w wr) (fun _ i _ => n - (intOf i).toNat)
  case atStart => exact ⟨0, Nat.zero_le _, rfl, ow_nil _ _ _ _, bl_refl w⟩
  case round =>
    obtain ⟨k, hk, rfl, hown, hb⟩ := hrel
    by_cases hlt : k < n
    · obtain ⟨ad, rfl, hcell⟩ := (hr.below hb).at_ hlt
      have hs := ints_snoc .i64 zs (show k < zs.length by omega)
      generalize zs.getD k 0 = x at hcell hs
      have HS := Lib.hid hs
      clear hs
      have hsz := hb.size
      obtain ⟨A1, c1, rfl⟩ := ow_slice hown
      go_wp2_with (at_builtin; refine wpList_append_own _ rfl _ _ 22 rfl w.heap.size 2 i0 (.int .i64 0) 1 8 Try.underlying22 hi hz0 hz1 hz2 rfl (by decide) _ _ _ rfl (hown.alloc _) ⟨wr.heap.size, 0, none⟩ 1 1 [.int .i64 x] rfl rfl ?c1 ?c2 ?c3 ?c4 ?c5 ?_)
      case c1 => exact cell_one_new _ _ _
      case c2 => simp [Value.oneCell']
      case c3 => simp only [maxLen]; omega
      case c4 => omega
      case c5 => simp; omega
      intro v' w1 hown' hgrow _
      rw [HS.out] at hown'
      have hb1 := ow_below _ hown hb hsz hgrow
      clear hown hgrow hcell
      go_wp2
      go_roundw
      case rel => exact ⟨k + 1, by omega, by go_num, hown', hb1⟩
      case measure => simp [intOf]; omega
    · obtain rfl : k = n := by omega
      rw [List.take_of_length_le (by omega)] at hown
      go_wp2
      go_ret
      exact ⟨_, rfl, hown, hb⟩

theorem sameLongs (A B : Option Addr) (n c d : Nat) (xs : List Int) (w : World) (h1 : RdI w .i64 A n xs) (h2 : RdI w .i64 B n xs) :
    Calls Try.prog 9 #[.slice A n c, .slice B n d] w fun e w' => e = .returned (.bool true) ∧ Below w.heap.size w w' := by
  have mixed : Try.prog.follows .mixedOrders = true := by kernel_rfl
  have hn := h1.2.1
  have H1 := Lib.hid h1
  have H2 := Lib.hid h2
  clear h1 h2
  go_enter Try.func9, Try.ntmps9
  go_wp2
  go_loopg [5] n (fun g vi wr => ∃ k : Nat, vi = .int .i64 k ∧ k ≤ n ∧ n - k ≤ g ∧ Hid (Below w.heap.size w wr))
  case atStart => exact ⟨0, rfl, by omega, by omega, bl_refl w⟩
  case round =>
    obtain ⟨k, rfl, hk, hg, hb⟩ := hrel
    by_cases hlt : k < n
    · have hltz : (k : Int) < (n : Int) := by omega
      obtain ⟨a, rfl, ca⟩ := (H1.out.below hb.out).at_ hlt
      obtain ⟨b, rfl, cb⟩ := (H2.out.below hb.out).at_ hlt
      generalize xs.getD k 0 = x at ca cb
      have nx : (x != x) = false := by simp
      go_wp2_with fail
      go_quiet (fail)
      have hb2 := Lib.hid (bl_drewN hb.out nq)
      clear hb ca cb
      generalize wr.drewN nq = w2 at hb2 ⊢
      go_wp2
      go_roundg (n - (k + 1))
      case measure => omega
      case rel => exact ⟨k + 1, by go_num, by omega, by omega, hb2⟩
    · have hltz : ¬ (k : Int) < (n : Int) := by omega
      go_wp2
      go_ret
      exact ⟨rfl, hb.out⟩

/-! ### fit -/
structure FitK (n : Int) (xs : List Int) (k : Nat) (left : Int) (some_ : Bool) : Prop where
  neg : (xs.take k).any (fun x => decide (x < 0)) = false
  pos : (xs.take k).any (fun x => decide (0 < x)) = some_
  sum : left = 9223372036854775807 - theSum (xs.take k)
  lo : 0 ≤ left
theorem take_nonneg {xs : List Int} {k : Nat} (h : (xs.take k).any (fun x => decide (x < 0)) = false) : 0 ≤ theSum (xs.take k) := sum_nonneg h
theorem fit_neg {n : Int} {xs : List Int} {k : Nat} (hk : k < xs.length) (h : xs.getD k 0 < 0) : ¬ FitS n xs := fun f => by
  have := f.facts.w0 k
  omega
theorem fit_over {n : Int} {xs : List Int} {k : Nat} (hk : k < xs.length) (h : 9223372036854775807 - theSum (xs.take k) < xs.getD k 0) : ¬ FitS n xs := fun f => by
  have F := f.facts
  have a := sumTo_part (f := fun j => xs.getD j 0) (k := k + 1) (l := xs.length) (by omega) fun j _ => F.w0 j
  rw [← sumTo_all rfl, ← sumTo_list xs (k + 1) (by omega), take_next xs k hk, theSum_append] at a
  have := F.t1
  simp only [theSum] at a
  omega
theorem FitK.step {n : Int} {xs : List Int} {k : Nat} {left : Int} {s : Bool} (h : FitK n xs k left s) (hk : k < xs.length) (h0 : ¬ xs.getD k 0 < 0) (h1 : ¬ left < xs.getD k 0) : FitK n xs (k + 1) (left - xs.getD k 0) (s || decide (0 < xs.getD k 0)) := by
  obtain ⟨a, b, c, d⟩ := h
  refine ⟨?_, ?_, ?_, by omega⟩
  · rw [take_next xs k hk, List.any_append, a]
    simp only [List.any_cons, List.any_nil, Bool.or_false, Bool.false_or, decide_eq_false_iff_not]
    exact h0
  · rw [take_next xs k hk, List.any_append, b]
    simp only [List.any_cons, List.any_nil, Bool.or_false]
  · rw [take_next xs k hk, theSum_append]
    simp only [theSum]
    omega
/-- What fit answers. -/
def FitR (n : Int) (xs : List Int) (w : World) (e : Ending) (w' : World) : Prop := (∃ b : Bool, e = .returned (.bool b) ∧ (b = true ↔ FitS n xs)) ∧ w = w'
theorem fit_any (n : Int) (A0 : Option Addr) (l c : Nat) (xs : List Int) (w : World) (hr : RdI w .i64 A0 l xs) (hin : In64 xs) :
    Calls Try.prog 6 #[.int .i64 n, .slice A0 l c] w (FitR n xs w) := by
  have hl := hr.1
  have hn := hr.2.1
  have HL := Lib.hid hl
  have HR := Lib.hid hr
  clear hr hl
  go_enter Try.func6, Try.ntmps6
  go_wp2
  go_loopg [5, 6, 7] l (fun g vl vs vi wr => ∃ (k : Nat) (left : Int) (s : Bool), vi = .int .i64 k ∧ vl = .int .i64 left ∧ vs = .bool s ∧ k ≤ l ∧ l - k ≤ g ∧ wr = w ∧ Hid (FitK n xs k left s))
  case atStart => exact ⟨0, 9223372036854775807, false, rfl, rfl, rfl, by omega, by omega, rfl, (show FitK n xs 0 _ false from ⟨rfl, rfl, by simp [theSum], by omega⟩)⟩
  case round =>
    obtain ⟨k, left, s, rfl, rfl, rfl, hk, hg, rfl, HK⟩ := hrel
    by_cases hlt : k < l
    · have hltz : (k : Int) < (l : Int) := by omega
      obtain ⟨ad, rfl, hck⟩ := HR.out.at_ hlt
      have hkx : k < xs.length := by have := HL.out; omega
      have hx := getD_in hin hkx
      have N1 := Lib.hid (fit_neg (n := n) hkx)
      have N2 := Lib.hid (fit_over (n := n) hkx)
      have N3 := Lib.hid (HK.out.step hkx)
      rw [← HK.out.sum] at N2
      have hle : left ≤ 9223372036854775807 := by
        have := take_nonneg HK.out.neg
        have := HK.out.sum
        omega
      have hlo := HK.out.lo
      generalize xs.getD k 0 = x at hck hx N1 N2 N3
      clear hkx
      by_cases h0 : x < 0
      · have F := Lib.hid (N1.out h0)
        clear N1 N2 N3
        go_wp2
        go_ret
        exact ⟨⟨false, rfl, ⟨fun h => by simp at h, fun h => absurd h F.out⟩⟩, rfl⟩
      · by_cases h1 : left < x
        · have F := Lib.hid (N2.out h1)
          clear N1 N2 N3
          go_wp2
          go_ret
          exact ⟨⟨false, rfl, ⟨fun h => by simp at h, fun h => absurd h F.out⟩⟩, rfl⟩
        · have N := Lib.hid (N3.out h0 h1)
          clear N1 N2 N3
          have wl : IntKind.i64.wrap (left - x) = left - x := by rw [IntKind.wrap_i64]; omega
          cases s with
          | true =>
            go_wp2
            go_roundg (l - (k + 1))
            case measure => omega
            case rel => exact ⟨k + 1, left - x, true, by go_num, rfl, rfl, by omega, by omega, rfl, (show FitK _ _ _ _ _ from by have := N.out; simpa using this)⟩
          | false =>
            go_wp2
            go_roundg (l - (k + 1))
            case measure => omega
            case rel => exact ⟨k + 1, left - x, decide (0 < x), by go_num, rfl, by simp, by omega, by omega, rfl, (show FitK _ _ _ _ _ from by have := N.out; simpa using this)⟩
    · have e : l = k := by omega
      subst e
      have hltz : ¬ (l : Int) < (l : Int) := by omega
      have F : (decide (0 ≤ n) && s) = true ↔ FitS n xs := by
        obtain ⟨a, b, c, d⟩ := HK.out
        rw [List.take_of_length_le (by have := HL.out; omega)] at a b c
        unfold FitS
        rw [a, b]
        simp only [Bool.and_eq_true, decide_eq_true_eq]
        constructor
        · rintro ⟨x, y⟩
          exact ⟨x, trivial, y, by omega⟩
        · rintro ⟨x, _, y, _⟩
          exact ⟨x, y⟩
      have HF := Lib.hid F
      clear F
      by_cases n0 : 0 ≤ n
      · have HF2 := HF.out
        rw [decide_eq_true n0, Bool.true_and] at HF2
        have HF3 := Lib.hid HF2
        clear HF2
        go_wp2
        go_ret
        exact ⟨⟨s, rfl, HF3.out⟩, rfl⟩
      · have HF2 := HF.out
        rw [decide_eq_false n0, Bool.false_and] at HF2
        have HF3 := Lib.hid HF2
        clear HF2
        go_wp2
        go_ret
        exact ⟨⟨false, rfl, HF3.out⟩, rfl⟩
theorem fit_yes (n : Int) (A0 : Option Addr) (l c : Nat) (xs : List Int) (w : World) (hr : RdI w .i64 A0 l xs) (hin : In64 xs) (h : FitS n xs) :
    Calls Try.prog 6 #[.int .i64 n, .slice A0 l c] w fun e w' => e = .returned (.bool true) ∧ w = w' :=
  (fit_any n A0 l c xs w hr hin).mono fun e w' ⟨⟨b, he, hb⟩, hw⟩ => by
    rw [hb.2 h] at he
    exact ⟨he, hw⟩
theorem fit_no (n : Int) (A0 : Option Addr) (l c : Nat) (xs : List Int) (w : World) (hr : RdI w .i64 A0 l xs) (hin : In64 xs) (h : ¬ FitS n xs) :
    Calls Try.prog 6 #[.int .i64 n, .slice A0 l c] w fun e w' => e = .returned (.bool false) ∧ w = w' :=
  (fit_any n A0 l c xs w hr hin).mono fun e w' ⟨⟨b, he, hb⟩, hw⟩ => by
    cases b with
    | true => exact absurd (hb.1 rfl) h
    | false => exact ⟨he, hw⟩
end Go.Proofs.Ytccnfklemalmeaa
