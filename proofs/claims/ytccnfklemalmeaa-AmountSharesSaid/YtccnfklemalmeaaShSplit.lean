/- amount.Split by its contract. -/
import Derived.Test.YtccnfklemalmeaaShLess
import Derived.Test.YtccnfklemalmeaaShMulDiv
import Derived.Test.YtccnfklemalmeaaShDeal
import Derived.Laws.OwnMore
import Derived.Shelf.SlSortFunc.HeapSort
import Derived.Lib.OwnBridge
import Derived.Deep.Cut
import Derived.Deep.CutBlock
import Derived.Deep.DeepCutAuto
set_option linter.unusedVariables false
set_option linter.unusedSimpArgs false
set_option maxRecDepth 100000
namespace Go.Proofs.Ytccnfklemalmeaa
open Go.RowKit Go.Sort Go.Lib Go.Shelf

/-- A new row of one value. -/
def Made (v : Value) (l : Nat) : Array Value := madeCells #[v] l
theorem made_size (v : Value) (l : Nat) : (Made v l).size = l := size_madeCells _ _
theorem made_at (v : Value) (l : Nat) {j : Nat} (h : j < l) : (Made v l)[j]? = some v := by
  unfold Made madeCells
  simp [h, Nat.mod_one]
theorem make_run (t e : TypeId) (z : Value) (l : Nat) (ht : Try.prog.underlying t = some (.slice e)) (hi : (Try.prog.info? e).map (fun i => (i.zero, i.size, i.bytes)) = some (some z, 1, 8)) (hz : z.cells = #[z]) (hl : l * 8 ≤ 140737488351232) (w : World) :
    (Instr.makeSlice t (.int .i64 l) (.int .i64 l)).run Try.prog w = .ok (.slice (some ⟨w.heap.size, 0, none⟩) l l) (w.alloc (.cells (Made z l) e)) := by
  obtain ⟨i, h1, h2⟩ := Option.map_eq_some_iff.1 hi
  simp only [Prod.mk.injEq] at h2
  obtain ⟨hz1, hsz, hby⟩ := h2
  have r := run_make (P := Try.prog) w t e i z ht h1 hz1 .i64 .i64 (l : Int) (l : Int) (by omega) (Int.le_refl _) (by rw [hby]; omega) (by omega)
  rw [hsz, hz] at r
  simp only [Int.toNat_natCast, Nat.mul_one] at r
  exact r

theorem GErr.nil_of {E : GErr} (h : E.ok) (h0 : E.num = 0) : E = .nil := by
  rcases h with h | h
  · exact h
  · omega
/-- The sum of a list that is in bounds. -/
theorem sum_fit (A0 : Option Addr) (l c : Nat) (xs : List Int) (w : World) (hr : RdI w .i64 A0 l xs) (hl : l * 8 ≤ 140737488351232) (hin : In64 xs) (h1 : -9223372036854775808 ≤ theSum xs) (h2 : theSum xs ≤ 9223372036854775807) :
    Calls Try.prog 4 #[.slice A0 l c] w fun e w' => e = .returned (.tuple #[.int .i64 (theSum xs), .nilIface]) ∧ Below w.heap.size w w' :=
  (sum_s64 A0 l c xs w hr hl hin).mono fun e w' ⟨E, he, hok, hE, hb⟩ => by
    have e1 : sumE xs = 0 := if_pos ⟨h1, h2⟩
    have e2 : sumV xs = theSum xs := if_pos ⟨h1, h2⟩
    rw [e1] at hE
    rw [e2, GErr.nil_of hok hE] at he
    exact ⟨he, hb⟩
theorem sum_nonneg {xs : List Int} (h : xs.any (fun x => decide (x < 0)) = false) : 0 ≤ theSum xs := by
  induction xs with
  | nil => simp [theSum]
  | cons x r ih =>
    simp only [List.any_cons, Bool.or_eq_false_iff, decide_eq_false_iff_not] at h
    have := ih h.2
    simp only [theSum]
    omega

/-- One place of a row set anew. -/
def upd (P : Nat → Int) (k : Nat) (v : Int) : Nat → Int := fun j => if j = k then v else P j
theorem upd_same (P : Nat → Int) (k : Nat) (v : Int) : upd P k v k = v := if_pos rfl
theorem upd_other (P : Nat → Int) {k j : Nat} (v : Int) (h : j ≠ k) : upd P k v j = P j := if_neg h
/-- What lies in the heap while Split runs: the parts, the rests (and the cell through which the comparison sees them), the order. -/
structure SpI (w W : World) (bp br bx bo l : Nat) (P R O : Nat → Int) : Prop where
  below : Below w.heap.size w W
  ob : w.heap.size ≤ bp ∧ bp < br ∧ br < bx ∧ bx < bo ∧ bo < W.heap.size
  cp : ∀ j, j < l → W.cell? ⟨bp, j, none⟩ = some (.int .i64 (P j))
  cr : ∀ j, j < l → W.cell? ⟨br, j, none⟩ = some (.int .u64 (R j))
  cx : W.cell? ⟨bx, 0, none⟩ = some (.slice (some ⟨br, 0, none⟩) l l)
  co : ∀ j, j < l → W.cell? ⟨bo, j, none⟩ = some (.int .i64 (O j))
  fr : ∀ b o, (b = bp ∨ b = br ∨ b = bo) → W.frozen? ⟨b, o, none⟩ = false
theorem SpI.start {w w1 : World} (hb : Below w.heap.size w w1) (l : Nat) (t1 t2 t3 t4 : TypeId) :
    SpI w ((((w1.alloc (.cells (Made (.int .i64 0) l) t1)).alloc (.cells (Made (.int .u64 0) l) t2)).alloc (.cells #[.slice (some ⟨w1.heap.size + 1, 0, none⟩) l l] t3)).alloc (.cells (Made (.int .i64 0) l) t4)) w1.heap.size (w1.heap.size + 1) (w1.heap.size + 1 + 1) (w1.heap.size + 1 + 1 + 1) l (fun _ => 0) (fun _ => 0) (fun _ => 0) := by
  have hs := hb.size
  have z1 : (w1.alloc (.cells (Made (.int .i64 0) l) t1)).heap.size = w1.heap.size + 1 := by simp
  generalize hA : w1.alloc (.cells (Made (.int .i64 0) l) t1) = A at z1 ⊢
  have z2 : (A.alloc (.cells (Made (.int .u64 0) l) t2)).heap.size = w1.heap.size + 1 + 1 := by simp [z1]
  generalize hB : A.alloc (.cells (Made (.int .u64 0) l) t2) = B at z2 ⊢
  have z3 : (B.alloc (.cells #[.slice (some ⟨w1.heap.size + 1, 0, none⟩) l l] t3)).heap.size = w1.heap.size + 1 + 1 + 1 := by simp [z2]
  generalize hC : B.alloc (.cells #[.slice (some ⟨w1.heap.size + 1, 0, none⟩) l l] t3) = C at z3 ⊢
  have z4 : (C.alloc (.cells (Made (.int .i64 0) l) t4)).heap.size = w1.heap.size + 1 + 1 + 1 + 1 := by simp [z3]
  have b1 : Below w.heap.size w A := by rw [← hA]; exact bl_alloc hb _
  have b2 : Below w.heap.size w B := by rw [← hB]; exact bl_alloc b1 _
  have b3 : Below w.heap.size w C := by rw [← hC]; exact bl_alloc b2 _
  refine ⟨bl_alloc b3 _, ⟨hs, by omega, by omega, by omega, by rw [z4]; omega⟩, fun j hj => ?_, fun j hj => ?_, ?_, fun j hj => ?_, fun b o h => ?_⟩
  · rw [World.cell?_alloc_lt _ _ _ (by show w1.heap.size < C.heap.size; omega), ← hC, World.cell?_alloc_lt _ _ _ (by show w1.heap.size < B.heap.size; omega), ← hB, World.cell?_alloc_lt _ _ _ (by show w1.heap.size < A.heap.size; omega), ← hA, World.cell?_alloc_new]
    exact made_at _ _ hj
  · rw [World.cell?_alloc_lt _ _ _ (by show w1.heap.size + 1 < C.heap.size; omega), ← hC, World.cell?_alloc_lt _ _ _ (by show w1.heap.size + 1 < B.heap.size; omega), ← hB, ← z1, World.cell?_alloc_new]
    exact made_at _ _ hj
  · rw [World.cell?_alloc_lt _ _ _ (by show w1.heap.size + 1 + 1 < C.heap.size; omega), ← hC, ← z2, World.cell?_alloc_new]
    rfl
  · rw [← z3, World.cell?_alloc_new]
    exact made_at _ _ hj
  · rcases h with rfl | rfl | rfl
    · rw [World.frozen?_alloc_old _ _ _ (by show w1.heap.size ≠ C.heap.size; omega), ← hC, World.frozen?_alloc_old _ _ _ (by show w1.heap.size ≠ B.heap.size; omega), ← hB, World.frozen?_alloc_old _ _ _ (by show w1.heap.size ≠ A.heap.size; omega), ← hA, World.frozen?_alloc_new]
    · rw [World.frozen?_alloc_old _ _ _ (by show w1.heap.size + 1 ≠ C.heap.size; omega), ← hC, World.frozen?_alloc_old _ _ _ (by show w1.heap.size + 1 ≠ B.heap.size; omega), ← hB, ← z1, World.frozen?_alloc_new]
    · rw [← z3, World.frozen?_alloc_new]
theorem SpI.grow {w W W' : World} {bp br bx bo l : Nat} {P R O : Nat → Int} (h : SpI w W bp br bx bo l P R O) (hb : Below W.heap.size W W') : SpI w W' bp br bx bo l P R O := by
  obtain ⟨o1, o2, o3, o4, o5⟩ := h.ob
  exact ⟨bl_then h.below hb, ⟨o1, o2, o3, o4, Nat.lt_of_lt_of_le o5 hb.size⟩, fun j hj => bl_cell hb (h.cp j hj), fun j hj => bl_cell hb (h.cr j hj), bl_cell hb h.cx, fun j hj => bl_cell hb (h.co j hj), fun b o hh => by
    rw [(bcell hb).2 b o (by omega)]
    exact h.fr b o hh⟩

theorem SpI.put {w W : World} {bp br bx bo l : Nat} {P R O : Nat → Int} (h : SpI w W bp br bx bo l P R O) {k : Nat} (hk : k < l) (x y z : Int) :
    SpI w ((((W.setCell ⟨bp, k, none⟩ (.int .i64 x)).setCell ⟨br, k, none⟩ (.int .u64 y)).setCell ⟨bo, k, none⟩ (.int .i64 z)).drew) bp br bx bo l (upd P k x) (upd R k y) (upd O k z) := by
  obtain ⟨o1, o2, o3, o4, o5⟩ := h.ob
  have oth : ∀ (W : World) (a b i j : Nat) (v : Value), a ≠ b → (W.setCell ⟨a, i, none⟩ v).cell? ⟨b, j, none⟩ = W.cell? ⟨b, j, none⟩ := fun W a b i j v hab => World.cell?_setCell_other _ _ _ _ (fun e => by injection e; omega)
  have oth2 : ∀ (W : World) (b i j : Nat) (v : Value), i ≠ j → (W.setCell ⟨b, i, none⟩ v).cell? ⟨b, j, none⟩ = W.cell? ⟨b, j, none⟩ := fun W b i j v hab => World.cell?_setCell_other _ _ _ _ (fun e => by injection e; omega)
  refine ⟨bl_drew (bl_set (bl_set (bl_set h.below (by exact o1) _) (by show w.heap.size ≤ br; omega) _) (by show w.heap.size ≤ bo; omega) _), ⟨o1, o2, o3, o4, by simpa using o5⟩, fun j hj => ?_, fun j hj => ?_, ?_, fun j hj => ?_, fun b o hh => ?_⟩
  · show (((W.setCell ⟨bp, k, none⟩ (.int .i64 x)).setCell ⟨br, k, none⟩ (.int .u64 y)).setCell ⟨bo, k, none⟩ (.int .i64 z)).cell? _ = _
    rw [oth _ _ _ _ _ _ (by omega), oth _ _ _ _ _ _ (by omega)]
    by_cases e : j = k
    · subst e; rw [upd_same]; exact World.cell?_setCell_same _ _ _ (h.cp j hj)
    · rw [upd_other _ _ e, oth2 _ _ _ _ _ (Ne.symm e)]; exact h.cp j hj
  · show (((W.setCell ⟨bp, k, none⟩ (.int .i64 x)).setCell ⟨br, k, none⟩ (.int .u64 y)).setCell ⟨bo, k, none⟩ (.int .i64 z)).cell? _ = _
    rw [oth _ _ _ _ _ _ (by omega)]
    by_cases e : j = k
    · subst e; rw [upd_same]; exact World.cell?_setCell_same _ _ _ (by rw [oth _ _ _ _ _ _ (by omega)]; exact h.cr j hj)
    · rw [upd_other _ _ e, oth2 _ _ _ _ _ (Ne.symm e), oth _ _ _ _ _ _ (by omega)]; exact h.cr j hj
  · show (((W.setCell ⟨bp, k, none⟩ (.int .i64 x)).setCell ⟨br, k, none⟩ (.int .u64 y)).setCell ⟨bo, k, none⟩ (.int .i64 z)).cell? _ = _
    rw [oth _ _ _ _ _ _ (by omega), oth _ _ _ _ _ _ (by omega), oth _ _ _ _ _ _ (by omega)]
    exact h.cx
  · show (((W.setCell ⟨bp, k, none⟩ (.int .i64 x)).setCell ⟨br, k, none⟩ (.int .u64 y)).setCell ⟨bo, k, none⟩ (.int .i64 z)).cell? _ = _
    by_cases e : j = k
    · subst e; rw [upd_same]; exact World.cell?_setCell_same _ _ _ (by rw [oth _ _ _ _ _ _ (by omega), oth _ _ _ _ _ _ (by omega)]; exact h.co j hj)
    · rw [upd_other _ _ e, oth2 _ _ _ _ _ (Ne.symm e), oth _ _ _ _ _ _ (by omega), oth _ _ _ _ _ _ (by omega)]; exact h.co j hj
  · show (((W.setCell ⟨bp, k, none⟩ (.int .i64 x)).setCell ⟨br, k, none⟩ (.int .u64 y)).setCell ⟨bo, k, none⟩ (.int .i64 z)).frozen? _ = _
    rw [World.frozen?_setCell, World.frozen?_setCell, World.frozen?_setCell]
    exact h.fr b o hh

theorem add_zero (b j : Nat) : (⟨b, 0, none⟩ : Addr).add j = ⟨b, j, none⟩ := by
  cases j with
  | zero => rfl
  | succ j => simp [Addr.add]
theorem div_fits {n x T : Int} (h0 : 0 ≤ n) (h1 : n ≤ 9223372036854775807) (hx : x ≤ T) (hT : 0 < T) : n * x / 18446744073709551616 < T := by
  have a : n * x ≤ n * T := Int.mul_le_mul_of_nonneg_left hx h0
  have b : n * T ≤ 9223372036854775807 * T := Int.mul_le_mul_of_nonneg_right h1 (by omega)
  exact Int.ediv_lt_of_lt_mul (by omega) (by omega)

/-- A place as a number; beyond the end it is the last one (no row holds such a place). -/
def encS (l : Nat) (x : Nat) : Value := .int .i64 ((min x (l - 1) : Nat) : Int)
theorem encS_at {l x : Nat} (h : x < l) : encS l x = .int .i64 x := by
  unfold encS
  rw [show min x (l - 1) = x by omega]
/-- The order as it was laid, and the comparison, are what the sort asks for. -/
theorem SpI.sorts {w W : World} {bp br bx bo l : Nat} {P R O : Nat → Int} (h : SpI w W bp br bx bo l P R O) (hO : ∀ j, j < l → O j = j) {key : Nat → Int} (hk : ∀ x, key x = R (min x (l - 1))) (l0 : 0 < l) (hl : l < 2305843009213693952) :
    SortE (encS l) key 16 #[.pointer (some ⟨bx, 0, none⟩)] W bo 0 (Places l) := by
  obtain ⟨o1, o2, o3, o4, o5⟩ := h.ob
  refine ⟨⟨fun x => rfl, fun j hj => ?_, o5⟩, enters_less, CmpReads.lays fun m os dk hs x y => ?_, by rw [places_size]; exact hl⟩
  · rw [places_size] at hj
    rw [places_at hj, encS_at hj, Nat.zero_add, h.co j hj, hO j hj]
    exact ⟨rfl, h.fr bo j (.inr (.inr rfl))⟩
  · have R1 : Rests (sortWorld (encS l) W bo 0 m dk os) bx br l l R :=
      ⟨(cell?_sortWorld_other _ _ _ _ _ _ _ _ (by show bx ≠ bo; omega) (by show bx < W.heap.size; omega)).trans h.cx,
        fun k hk => (cell?_sortWorld_other _ _ _ _ _ _ _ _ (by show br ≠ bo; omega) (by show br < W.heap.size; omega)).trans (h.cr k hk)⟩
    have := less_any bx br l l (min x (l - 1)) (min y (l - 1)) R _ R1 (by omega) (by omega) hl
    unfold cmpKey
    rw [hk x, hk y]
    exact this
/-- What the sort leaves. -/
theorem SpI.sorted {w W W' : World} {bp br bx bo l : Nat} {P R O : Nat → Int} (h : SpI w W bp br bx bo l P R O) (hO : ∀ j, j < l → O j = j) {d : Array Nat} (S : SW (encS l) W bo 0 d W') (hs : d.size = l) (hd : ∀ j, j < l → d[j]! < l) :
    SpI w W' bp br bx bo l P R (fun j => (d[j]! : Int)) := by
  obtain ⟨o1, o2, o3, o4, o5⟩ := h.ob
  have hH : Holds (encS l) W bo 0 (Places l) := fun j hj => by
    rw [places_size] at hj
    rw [places_at hj, encS_at hj, Nat.zero_add, h.co j hj, hO j hj]
    exact ⟨rfl, h.fr bo j (.inr (.inr rfl))⟩
  have hH' := S.holds o5 hH (by rw [places_size]; exact hs)
  have hle := S.le
  obtain ⟨m, os, rfl⟩ := S
  have oth : ∀ b o, b ≠ bo → b < W.heap.size → (sortWorld (encS l) W bo 0 m d os).cell? ⟨b, o, none⟩ = W.cell? ⟨b, o, none⟩ := fun b o h1 h2 => cell?_sortWorld_other _ _ _ _ _ _ _ _ h1 h2
  refine ⟨?_, ⟨o1, o2, o3, o4, Nat.lt_of_lt_of_le o5 hle⟩, fun j hj => (oth _ _ (by omega) (by omega)).trans (h.cp j hj), fun j hj => (oth _ _ (by omega) (by omega)).trans (h.cr j hj), (oth _ _ (by omega) (by omega)).trans h.cx, fun j hj => ?_, fun b o hh => ?_⟩
  · have b1 : Below w.heap.size w (putRow (encS l) (Sort.ahead W m) bo 0 d) := Lib.below_putRow h.below (by omega)
    unfold sortWorld
    exact ⟨b1.os, b1.tape, b1.output, Nat.le_trans b1.size (by rw [size_grow]; omega), fun k hk => by rw [heap_grow_old _ _ (by rw [size_putRow]; show k < W.heap.size; have := h.below.size; omega)]; exact b1.block k hk⟩
  · have := (hH' j (by omega)).1
    rw [Nat.zero_add, encS_at (hd j hj)] at this
    exact this
  · unfold sortWorld
    rw [frozen?_grow _ _ _ (by rw [size_putRow]; show b < W.heap.size; omega), frozen?_putRow]
    exact h.fr b o hh
/-- One part more. -/
theorem SpI.part {w W : World} {bp br bx bo l : Nat} {P R O : Nat → Int} (h : SpI w W bp br bx bo l P R O) {i : Nat} (hi : i < l) (x : Int) : SpI w (W.setCell ⟨bp, i, none⟩ (.int .i64 x)) bp br bx bo l (upd P i x) R O := by
  obtain ⟨o1, o2, o3, o4, o5⟩ := h.ob
  have oth : ∀ (b j : Nat), b ≠ bp → (W.setCell ⟨bp, i, none⟩ (.int .i64 x)).cell? ⟨b, j, none⟩ = W.cell? ⟨b, j, none⟩ := fun b j hab => World.cell?_setCell_other _ _ _ _ (fun e => by injection e; omega)
  refine ⟨bl_set h.below (by exact o1) _, ⟨o1, o2, o3, o4, by simpa using o5⟩, fun j hj => ?_, fun j hj => (oth _ _ (by omega)).trans (h.cr j hj), (oth _ _ (by omega)).trans h.cx, fun j hj => (oth _ _ (by omega)).trans (h.co j hj), fun b o hh => by rw [World.frozen?_setCell]; exact h.fr b o hh⟩
  by_cases e : j = i
  · subst e; rw [upd_same]; exact World.cell?_setCell_same _ _ _ (h.cp j hj)
  · rw [upd_other _ _ e, World.cell?_setCell_other _ _ _ _ (fun e' => by injection e'; omega)]; exact h.cp j hj
theorem part_bounds {n : Int} {xs : List Int} (F : FitF n xs) {d : Array Nat} (o : OrderS n xs d) {t L : Nat} (hL : (L : Int) = n - sumTo (lowS n xs) xs.length) (ht : t ≤ L) {j : Nat} (hj : j < xs.length) : 0 ≤ lowS n xs j + bump d t j ∧ lowS n xs j + bump d t j ≤ n := by
  have l1 := F.left1
  have h0 : ∀ j, 0 ≤ lowS n xs j + bump d t j := fun j => by
    have a := F.low0 j
    rcases bump_range o.pm (t := t) (by omega) j with b | b <;> omega
  have s := bump_sum o.pm (lowS n xs) t (by omega)
  have e := sumTo_elem (f := fun j => lowS n xs j + bump d t j) hj fun j _ => h0 j
  exact ⟨h0 j, by omega⟩

theorem split_good (A0 : Option Addr) (l c : Nat) (xs : List Int) (n : Int) (w : World) (hn : I64 n) (hr : RdI w .i64 A0 l xs) (hl : l * 8 ≤ 140737488351232) (hin : In64 xs) (hf : FitS n xs) :
    Calls Try.prog 5 #[.int .i64 n, .slice A0 l c] w fun e w' => ∃ (bp : Nat) (ps : List Int), e = .returned (.tuple #[.slice (some ⟨bp, 0, none⟩) l l, .nilIface]) ∧ RdI w' .i64 (some ⟨bp, 0, none⟩) l ps ∧ Dealt n xs ps ∧ Below w.heap.size w w' := by
  have F := hf.facts
  have HR := Lib.hid hr
  have HL := Lib.hid hr.1
  obtain ⟨h1, h2, h3, h4⟩ := hf
  have N0 : ¬ n < 0 := by omega
  have C1 := containsFunc_any 12 _ enters_neg neg_any A0 l c xs w hr
  have C2 := containsFunc_any 13 _ enters_pos pos_any A0 l c xs w hr
  have h0 := sum_nonneg h2
  have SM := sum_fit A0 l c xs w hr hl hin (by omega) h4
  rw [h2] at C1
  rw [h3] at C2
  have H1 := Lib.hid C1
  have H2 := Lib.hid C2
  have H3 := Lib.hid SM
  clear C1 C2 SM
  have hll : l ≤ 9223372036854775807 := by omega
  have m22 := make_run 22 2 (.int .i64 0) l Try.underlying22 (by kernel_rfl) rfl hl
  have m43 := make_run 43 34 (.int .u64 0) l Try.underlying43 (by kernel_rfl) rfl hl
  have m44 := make_run 44 3 (.int .i64 0) l Try.underlying44 (by kernel_rfl) rfl hl
  go_enter Try.func5, Try.ntmps5
  go_wp2_with (first | (go_at_call 11; first | (with_reducible refine (H1.out).mono ?_; rintro e w1 ⟨rfl, rfl⟩) | (with_reducible refine (H2.out).mono ?_; rintro e w1 ⟨rfl, rfl⟩)) | (go_at_call 4; with_reducible refine (H3.out).mono ?_; rintro e w1 ⟨rfl, hb⟩))
  have I0 := SpI.start hb l 2 34 43 3
  obtain ⟨W, hW⟩ : ∃ W, W = ((((w1.alloc (.cells (Made (.int .i64 0) l) 2)).alloc (.cells (Made (.int .u64 0) l) 34)).alloc (.cells #[.slice (some ⟨w1.heap.size + 1, 0, none⟩) l l] 43)).alloc (.cells (Made (.int .i64 0) l) 3)) := ⟨_, rfl⟩
  rw [← hW] at I0 ⊢
  clear hW m22 m43 m44
  generalize w1.heap.size + 1 + 1 + 1 = bo at I0 ⊢
  generalize w1.heap.size + 1 + 1 = bx at I0 ⊢
  generalize w1.heap.size + 1 = br at I0 ⊢
  generalize w1.heap.size = bp at I0 ⊢
  clear hb w1
  have I0 := Lib.hid I0
  obtain ⟨T, hT⟩ : ∃ T, T = theSum xs := ⟨_, rfl⟩
  rw [← hT]
  have HT := Lib.hid hT
  clear hT
  go_loopg [51, 11] l (fun gg vi vL wr => ∃ (k : Nat) (P R O : Nat → Int), vi = .int .i64 k ∧ vL = .int .i64 (n - sumTo (lowS n xs) k) ∧ k ≤ l ∧ l - k ≤ gg ∧ Hid (SpI w wr bp br bx bo l P R O) ∧ Hid (∀ j, j < k → P j = lowS n xs j ∧ R j = restS n xs j ∧ O j = j))
  case atStart => exact ⟨0, _, _, _, rfl, by simp [sumTo], by omega, by omega, I0, (show _ from fun j hj => by omega)⟩
  case round =>
    clear I0
    obtain ⟨k, P, R, O, rfl, rfl, hkl, hg, I, HP⟩ := hrel
    by_cases hlt : k < l
    · have hltz : (k : Int) < (l : Int) := by omega
      obtain ⟨ad, rfl, hck⟩ := (HR.out.below I.out.below).at_ hlt
      obtain ⟨x, hx⟩ : ∃ x, x = xs.getD k 0 := ⟨_, rfl⟩
      obtain ⟨q, hq⟩ : ∃ q, q = lowS n xs k := ⟨_, rfl⟩
      obtain ⟨r, hr⟩ : ∃ r, r = restS n xs k := ⟨_, rfl⟩
      obtain ⟨S, hS⟩ : ∃ S, S = sumTo (lowS n xs) k := ⟨_, rfl⟩
      have hkx : k < xs.length := by have := HL.out; omega
      have hp1 := F.part (k := k) (by omega)
      have hp2 := F.part (k := k + 1) (by omega)
      simp only [sumTo] at hp2
      have hq0 := F.low0 k
      have hx0 := F.w0 k
      have hx1 := F.w1 k
      have ht0 := F.t0
      have n9 := hn.2
      have n8 := F.t1
      rw [← HT.out] at hx1 ht0 n8
      rw [← hx] at hck hx0 hx1
      rw [← hq] at hq0 hp2
      rw [← hS] at hp1 hp2 ⊢
      have D := divided_yes n x T ⟨by omega, hn.2⟩ ⟨by omega, by omega⟩ ⟨by omega, by omega⟩ (div_fits (by omega) hn.2 (by omega) (by omega)) wr
      have eq1 : n * x / T = q := by rw [hq, hx, HT.out]; rfl
      have er1 : n * x % T = r := by rw [hr, hx, HT.out]; rfl
      rw [eq1, er1] at D
      have HD := Lib.hid D
      have wq : IntKind.i64.wrap q = q := by rw [IntKind.wrap_i64]; omega
      have wS : IntKind.i64.wrap (n - S - q) = n - S - q := by rw [IntKind.wrap_i64]; omega
      have HQ := Lib.hid (And.intro hq (And.intro hr hS))
      clear n8 n9 eq1 er1 D hq hr hS hx hp1 hp2 hq0 hx0 hx1 ht0
      go_upto_region 14 with (first | (go_at_call 14; with_reducible refine (HD.out).mono ?_; rintro e w2 ⟨rfl, hb2⟩))
      have I2 := Lib.hid (I.out.grow hb2)
      clear I hb2 hck HD
      have cp := I2.out.cp k hlt
      have cr := I2.out.cr k hlt
      have cx := I2.out.cx
      have co := I2.out.co k hlt
      have fp := I2.out.fr bp k (.inl rfl)
      have fq := I2.out.fr br k (.inr (.inl rfl))
      have fo := I2.out.fr bo k (.inr (.inr rfl))
      obtain ⟨o1, o2, o3, o4, o5⟩ := I2.out.ob
      have cx2 : (w2.setCell ⟨bp, k, none⟩ (.int .i64 q)).cell? ⟨bx, 0, none⟩ = _ := (World.cell?_setCell_other _ _ _ _ (fun e => by injection e; omega)).trans cx
      have cr2 : (w2.setCell ⟨bp, k, none⟩ (.int .i64 q)).cell? ⟨br, k, none⟩ = _ := (World.cell?_setCell_other _ _ _ _ (fun e => by injection e; omega)).trans cr
      have co2 : ((w2.setCell ⟨bp, k, none⟩ (.int .i64 q)).setCell ⟨br, k, none⟩ (.int .u64 r)).cell? ⟨bo, k, none⟩ = _ := (World.cell?_setCell_other _ _ _ _ (fun e => by injection e; omega)).trans ((World.cell?_setCell_other _ _ _ _ (fun e => by injection e; omega)).trans co)
      have IN := Lib.hid (I2.out.put hlt q r k)
      clear I2 o1 o2 o3 o4 o5
      go_big_region
      clear cp cr cx co fp fq fo cx2 cr2 co2
      generalize (((w2.setCell ⟨bp, k, none⟩ (.int .i64 q)).setCell ⟨br, k, none⟩ (.int .u64 r)).setCell ⟨bo, k, none⟩ (.int .i64 k)).drew = w3 at IN ⊢
      go_wp2
      go_roundg (l - (k + 1))
      case measure => omega
      case rel =>
        obtain ⟨e1, e2, e3⟩ := HQ.out
        refine ⟨k + 1, _, _, _, by go_num, ?_, by omega, by omega, IN, (show ∀ j, j < k + 1 → _ from fun j hj => ?_)⟩
        · simp only [sumTo]
          rw [← e1, ← e3, Int.sub_sub]
        · by_cases e : j = k
          · subst e
            rw [upd_same, upd_same, upd_same]
            exact ⟨e1, e2, rfl⟩
          · rw [upd_other _ _ e, upd_other _ _ e, upd_other _ _ e]
            exact HP.out j (by omega)
    · have e : l = k := by omega
      subst e
      have hlz : ¬ (l : Int) < (l : Int) := by omega
      obtain ⟨L, hL⟩ : ∃ L : Nat, (L : Int) = n - sumTo (lowS n xs) l := ⟨(n - sumTo (lowS n xs) l).toNat, by have := F.left0; rw [HL.out] at this; omega⟩
      have hLl : L ≤ l := by
        have := F.left1
        rw [HL.out] at this
        omega
      rw [← hL]
      have HLL := Lib.hid hL
      have hLz : (L : Int) ≤ (l : Int) := by omega
      have l0 : 0 < l := by have := F.l0; rw [HL.out] at this; exact this
      have hkey : ∀ x, keyS n xs x = R (min x (l - 1)) := fun x => by
        unfold keyS
        rw [HL.out, (HP.out _ (show min x (l - 1) < l by omega)).2.1]
      have SE := I.out.sorts (fun j hj => (HP.out j hj).2.2) hkey l0 (by omega)
      have RT := sortStable_any SE l (by rw [places_size]; exact places_fresh l)
      rw [places_size] at RT
      have HRT := Lib.hid RT
      clear hL hkey SE RT
      go_upto_region 18 with (first | (go_at_call 15; with_reducible refine (HRT.out).mono ?_; rintro e w1 ⟨rfl, d, SD, pm, so⟩))
      have od : OrderS n xs d := ⟨by rw [HL.out]; exact pm, by rw [HL.out]; exact so⟩
      have I2 := Lib.hid (I.out.sorted (fun j hj => (HP.out j hj).2.2) SD (pm.1.trans (places_size l)) fun j hj => order_lt pm hj)
      have HPM := Lib.hid pm
      have HO := Lib.hid od
      clear pm so SD HRT I od
      go_wp2
      go_loopg [89] L (fun gg vi wr => ∃ (t : Nat) (P2 : Nat → Int), vi = .int .i64 t ∧ t ≤ L ∧ L - t ≤ gg ∧ Hid (SpI w wr bp br bx bo l P2 R (fun j => (d[j]! : Int))) ∧ Hid (∀ j, j < l → P2 j = lowS n xs j + bump d t j))
      case atStart => exact ⟨0, P, rfl, by omega, by omega, I2, (show ∀ j, j < l → _ from fun j hj => by rw [(HP.out j hj).1]; simp [bump])⟩
      case round =>
        clear I2
        obtain ⟨t, P2, rfl, htL, hg2, I, HB⟩ := hrel
        by_cases hlt2 : t < L
        · have hltz : (t : Int) < (L : Int) := by omega
          obtain ⟨i, hi⟩ : ∃ i, i = d[t]! := ⟨_, rfl⟩
          have hil : i < l := by rw [hi]; exact order_lt HPM.out (by omega)
          have co := I.out.co t (by omega)
          rw [← hi] at co
          have cp := I.out.cp i hil
          have fp := I.out.fr bp i (.inl rfl)
          obtain ⟨x, hx⟩ : ∃ x, x = P2 i := ⟨_, rfl⟩
          rw [← hx] at cp
          have hxe : x + 1 = lowS n xs i + bump d (t + 1) i := by
            rw [hx, HB.out i hil]
            simp only [bump]
            rw [if_pos hi.symm]
            omega
          have hbd := part_bounds F HO.out (L := L) (t := t + 1) (by rw [HL.out]; exact HLL.out) (by omega) (j := i) (by rw [HL.out]; exact hil)
          rw [← hxe] at hbd
          have n9 := hn.2
          have wx : IntKind.i64.wrap (x + 1) = x + 1 := by rw [IntKind.wrap_i64]; omega
          have bi : (i : Int) < (l : Int) := by omega
          have IN := Lib.hid (I.out.part hil (x + 1))
          have HX := Lib.hid (And.intro hi (And.intro hx hxe))
          clear I hi hx hxe hbd n9
          go_upto_region 22 with fail
          clear co cp fp
          generalize w1.setCell ⟨bp, i, none⟩ (.int .i64 (x + 1)) = w3 at IN ⊢
          go_wp2
          go_roundg (L - (t + 1))
          case measure => omega
          case rel =>
            obtain ⟨e1, e2, e3⟩ := HX.out
            refine ⟨t + 1, _, by go_num, by omega, by omega, IN, (show ∀ j, j < l → _ from fun j hj => ?_)⟩
            by_cases e : j = i
            · subst e
              rw [upd_same]
              exact e3
            · rw [upd_other _ _ e, HB.out j hj]
              simp only [bump]
              rw [if_neg (by rw [← e1]; exact Ne.symm e)]
              omega
        · have e : L = t := by omega
          subst e
          have hlz2 : ¬ (L : Int) < (L : Int) := by omega
          go_wp2
          go_ret2
          have hps : ∀ j, j < l → ((List.range l).map P2).getD j 0 = P2 j := fun j hj => by simp [List.getD_eq_getElem?_getD, hj]
          refine ⟨bp, rfl, (List.range l).map P2, ⟨by simp, hll, fun _ => ⟨_, rfl, fun j hj => ?_⟩⟩, ⟨by rw [HL.out]; simp, d, L, HO.out, by rw [HL.out]; exact HLL.out, fun j hj => ?_⟩, I.out.below⟩
          · rw [hps j hj]
            rw [add_zero bp j]
            exact I.out.cp j hj
          · rw [HL.out] at hj
            rw [hps j hj]
            exact HB.out j hj
end Go.Proofs.Ytccnfklemalmeaa
