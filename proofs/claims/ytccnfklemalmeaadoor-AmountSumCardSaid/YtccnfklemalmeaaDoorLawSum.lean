/- The law AmountSum by its walk. -/
import Derived.Test.YtccnfklemalmeaaDoorOwnAll
set_option linter.unusedVariables false
set_option linter.unusedSimpArgs false
set_option maxRecDepth 100000
namespace Go.Proofs.YtccnfklemalmeaaDoor
open Go.RowKit

/-- The reference's Sum, by its printed contract. -/
theorem refSum_any (A0 : Option Addr) (n c : Nat) (zs : List Int) (w : World) (hr : RdI w .i64 A0 n zs) (hc : n ≤ c) (hn : n * 8 ≤ 140737488351232) (hin : In64 zs) :
    Calls Tryd.prog 16 #[.slice A0 n c] w fun e w' => e = .returned (.tuple #[.int .i64 (sumV zs), .int .i64 (sumE zs)]) ∧ Below w.heap.size w w' := by
  have hl := hr.1
  subst hl
  exact Go.Proofs.YtccnfklemalmeaaDoor.PAmountSum.custodyref01_Sum.calls (zs.length + 2) A0 c zs _ _ w (Go.Proofs.YtccnfklemalmeaaDoorW.PrintWords.Kd.C_of_reads (d := (0 : Int)) (h1 := fun _ => rfl) hr) hc (refSum_pure zs hn hin)
theorem is_any (s ee : Int) (E : GErr) (hE : E.ok) (hEn : E.num = ee) (A0 : Option Addr) (n c : Nat) (zs : List Int) (w : World) (hg : ErrT w) (hr : RdI w .i64 A0 n zs) (hc : n ≤ c) (hn : n * 8 ≤ 140737488351232) (hin : In64 zs) (hs : s = sumV zs) (he : ee = sumE zs) :
    Calls Tryd.prog 26 #[.int .i64 s, E.val, .slice A0 n c] w fun e w' => e = .returned (.bool true) ∧ Below w.heap.size w w' := by
  have HN := Lib.hid (hEn.trans he)
  subst hs
  clear hEn he
  have HG := Lib.hid hg
  clear hg
  have q : (sumV zs == sumV zs) = true := beq_self_eq_true _
  go_enter Tryd.func26, Tryd.ntmps26
  go_wp2_with (first | (go_at_call 16; refine (refSum_any A0 n c zs _ hr hc hn hin).mono ?_; rintro e w1 ⟨rfl, hb1⟩) | (go_at_call 15; refine (plain_eq E hE _ HN.out _ (HG.out.below hb1)).mono ?_; rintro e w2 ⟨rfl, hb2⟩))
  go_ret
  exact ⟨rfl, bl_then hb1 hb2⟩
theorem in64_map (f : Int → Int) (zs : List Int) (h : ∀ x ∈ zs, -9223372036854775808 ≤ f x ∧ f x ≤ 9223372036854775807) : In64 (zs.map f) := by
  intro y hy
  obtain ⟨x, hx, rfl⟩ := List.mem_map.1 hy
  exact h x hx
/-- The nine lists of the law, cut at k. -/
def nine (zs : List Int) (k : Nat) (v1 v2 v3 v4 v5 v6 v7 v8 v9 : Value) : List Own1 :=
  [(41, v1, ints .i8 ((zs.map IntKind.i8.wrap).take k)), (42, v2, ints .i16 ((zs.map IntKind.i16.wrap).take k)), (21, v3, ints .i32 ((zs.map wrap32).take k)), (3, v4, ints .i64 (zs.take k)),
   (43, v5, ints .i8 ((zs.map IntKind.i8.wrap).take k)), (44, v6, ints .i64 (zs.take k)), (2, v7, ints .i64 ((zs.map IntKind.i8.wrap).take k)), (2, v8, ints .i64 ((zs.map IntKind.i16.wrap).take k)), (2, v9, ints .i64 ((zs.map wrap32).take k))]
theorem nf1 : (Tryd.prog.info? 41).map (fun i => (i.zero, i.size, i.bytes)) = some (some (.int .i8 0), 1, 1) := by kernel_rfl
theorem nf2 : (Tryd.prog.info? 42).map (fun i => (i.zero, i.size, i.bytes)) = some (some (.int .i16 0), 1, 2) := by kernel_rfl
theorem nf3 : (Tryd.prog.info? 21).map (fun i => (i.zero, i.size, i.bytes)) = some (some (.int .i32 0), 1, 4) := by kernel_rfl
theorem nf4 : (Tryd.prog.info? 3).map (fun i => (i.zero, i.size, i.bytes)) = some (some (.int .i64 0), 1, 8) := by kernel_rfl
theorem nf5 : (Tryd.prog.info? 43).map (fun i => (i.zero, i.size, i.bytes)) = some (some (.int .i8 0), 1, 1) := by kernel_rfl
theorem nf6 : (Tryd.prog.info? 44).map (fun i => (i.zero, i.size, i.bytes)) = some (some (.int .i64 0), 1, 8) := by kernel_rfl
theorem nf7 : (Tryd.prog.info? 2).map (fun i => (i.zero, i.size, i.bytes)) = some (some (.int .i64 0), 1, 8) := by kernel_rfl
theorem w_IntKindi8wrap (x : Int) : wrap64 (IntKind.i8.wrap x) = IntKind.i8.wrap x := by
  have : -128 ≤ IntKind.i8.wrap x ∧ IntKind.i8.wrap x ≤ 127 := by simp [IntKind.wrap, IntKind.bits, IntKind.signed]; omega
  unfold wrap64; omega
theorem w_IntKindi16wrap (x : Int) : wrap64 (IntKind.i16.wrap x) = IntKind.i16.wrap x := by
  have : -32768 ≤ IntKind.i16.wrap x ∧ IntKind.i16.wrap x ≤ 32767 := by simp [IntKind.wrap, IntKind.bits, IntKind.signed]; omega
  unfold wrap64; omega
theorem w_wrap32 (x : Int) : wrap64 (wrap32 x) = wrap32 x := by unfold wrap64 wrap32; omega
theorem in_i8 (z : List Int) : In64 (z.map IntKind.i8.wrap) := in64_map _ _ fun x _ => by
  have : -128 ≤ IntKind.i8.wrap x ∧ IntKind.i8.wrap x ≤ 127 := by simp [IntKind.wrap, IntKind.bits, IntKind.signed]; omega
  omega
theorem in_i16 (z : List Int) : In64 (z.map IntKind.i16.wrap) := in64_map _ _ fun x _ => by
  have : -32768 ≤ IntKind.i16.wrap x ∧ IntKind.i16.wrap x ≤ 32767 := by simp [IntKind.wrap, IntKind.bits, IntKind.signed]; omega
  omega
theorem in_i32 (z : List Int) : In64 (z.map wrap32) := in64_map _ _ fun x _ => by unfold wrap32; omega
theorem one1 (k : IntKind) (x : Int) : ∀ u ∈ [Value.int k x], u.oneCell' = true := by simp [Value.oneCell']
theorem le_alloc {B : Nat} {w : World} (h : B ≤ w.heap.size) (o : Obj) : B ≤ (w.alloc o).heap.size := by simp; omega
theorem lenT (κ : IntKind) (z : List Int) {k : Nat} (h : k ≤ z.length) : (ints κ (z.take k)).length = k := by simp [ints]; omega
theorem lenM (κ : IntKind) (f : Int → Int) (z : List Int) {k : Nat} (h : k ≤ z.length) : (ints κ ((z.map f).take k)).length = k := by simp [ints]; omega
theorem grow_below {w wr w1 : World} {base : Nat} {e : TypeId} {size n : Nat} {v : Value} {xs : List Value} {o : Obj} (h : wr.ownsRow base e size v n xs) (hb : Below base w wr) (hB : base ≤ wr.heap.size) (hg : (wr.alloc o).grownBy w1 v.ownBlock) : Below base w w1 :=
  (hb.alloc hB o).grown hg (by simp; omega) (fun k hk => ow_base h k hk)
set_option maxHeartbeats 4000000 in
theorem law_AmountSum (A0 : Option Addr) (n c : Nat) (z : List Int) (w : World) (hg : ErrT w) (hr : RdI w .i64 A0 n z) (hc : n ≤ c) (hn : n * 8 ≤ 140737488351232) (hin : In64 z) :
    Calls Tryd.prog 4 #[.slice A0 n c] w fun e w' => e = .returned (.bool true) ∧ Below w.heap.size w w' := by
  have HG := Lib.hid hg
  have hl := hr.1
  clear hg
  have q : (sumV z != sumV z) = false := by simp
  obtain ⟨i1, hi1, hz10, hz11, hz12⟩ := info_parts nf1
  obtain ⟨i2, hi2, hz20, hz21, hz22⟩ := info_parts nf2
  obtain ⟨i3, hi3, hz30, hz31, hz32⟩ := info_parts nf3
  obtain ⟨i4, hi4, hz40, hz41, hz42⟩ := info_parts nf4
  obtain ⟨i5, hi5, hz50, hz51, hz52⟩ := info_parts nf5
  obtain ⟨i6, hi6, hz60, hz61, hz62⟩ := info_parts nf6
  obtain ⟨i7, hi7, hz70, hz71, hz72⟩ := info_parts nf7
  go_enter Tryd.func4, Tryd.ntmps4
  subst hl
  go_wp2_with (first | (go_at_call 16; (with_reducible refine (refSum_any A0 z.length c z _ hr hc hn hin).mono ?_); rintro e w1 ⟨rfl, hb1⟩) | (go_at_call 17; (with_reducible refine (lentLongs A0 z.length c z _ (hr.below hb1) hn).mono ?_); rintro e w2 ⟨vl, rfl, hlent, hb2⟩; have HL := Lib.hid hlent; obtain ⟨A2, c2, rfl, hrl, hcl⟩ := hlent.rd hn) | (go_at_call 18; (with_reducible refine (sum_s64 A2 z.length c2 z _ hrl hn hin).mono ?_); rintro e w3 ⟨E1, rfl, ok1, n1, hb3⟩; have N1 := Lib.hid n1; clear n1; have hb13 := bl_then (bl_then hb1 hb2) hb3) | (go_at_call 15; (with_reducible refine (plain_eq E1 ok1 _ N1.out _ (HG.out.below hb13)).mono ?_); rintro e w4 ⟨rfl, hb4⟩) | (go_at_call 19; (with_reducible refine (keptLongs _ A0 z.length c z _ _ hn ((HL.out.below hb3).below hb4) (hr.below (bl_then hb13 hb4))).mono ?_); rintro e w5 ⟨rfl, rfl⟩))
  go_loopw [8, 9, 10, 11, 12, 13, 14, 15, 16, 17] (fun v1 v2 v3 v4 v5 v6 v7 v8 v9 i wr => ∃ k : Nat, k ≤ z.length ∧ i = .int .i64 k ∧ OwnAll wr w.heap.size (nine z k v1 v2 v3 v4 v5 v6 v7 v8 v9) ∧ Below w.heap.size w wr) (fun _ _ _ _ _ _ _ _ _ i _ => z.length - (intOf i).toNat)
  case atStart => exact ⟨0, Nat.zero_le _, rfl, OwnAll.nils _ _ [41, 42, 21, 3, 43, 44, 2, 2, 2], bl_then hb13 hb4⟩
  case round =>
    clear hb13 hb4 hb1 hb2 hb3 hrl HL N1 ok1
    obtain ⟨k, hk, rfl, OA0, hb0⟩ := hrel
    by_cases hlt : k < z.length
    · have hs0 := hb0.size
      obtain ⟨ad, rfl, hw0⟩ := hr.at_ hlt
      have S1 := ints_map_snoc .i8 IntKind.i8.wrap z hlt
      have S2 := ints_map_snoc .i16 IntKind.i16.wrap z hlt
      have S3 := ints_map_snoc .i32 wrap32 z hlt
      have S4 := ints_snoc .i64 z hlt
      have S5 := ints_map_snoc .i8 IntKind.i8.wrap z hlt
      have S6 := ints_snoc .i64 z hlt
      have S7 := ints_map_snoc .i64 IntKind.i8.wrap z hlt
      have S8 := ints_map_snoc .i64 IntKind.i16.wrap z hlt
      have S9 := ints_map_snoc .i64 wrap32 z hlt
      have hx := getD_in hin hlt
      generalize z.getD k 0 = x at hw0 hx S1 S2 S3 S4 S5 S6 S7 S8 S9
      have HW := Lib.hid hw0
      have hc0 := bl_cell hb0 hw0
      clear hw0
      have H1 := Lib.hid S1
      have H2 := Lib.hid S2
      have H3 := Lib.hid S3
      have H4 := Lib.hid S4
      have H5 := Lib.hid S5
      have H6 := Lib.hid S6
      have H7 := Lib.hid S7
      have H8 := Lib.hid S8
      have H9 := Lib.hid S9
      clear S1 S2 S3 S4 S5 S6 S7 S8 S9
      have hm3 : k + 1 ≤ maxLen := by simp only [maxLen]; omega
      have hm1 : (k + 1) * 1 ≤ 140737488355328 := by omega
      have hm2 : (k + 1) * 2 ≤ 140737488355328 := by omega
      have hm4 : (k + 1) * 4 ≤ 140737488355328 := by omega
      have hm8 : (k + 1) * 8 ≤ 140737488355328 := by omega
      go_wp2_with (at_builtin; refine wpList_append_own_at _ rfl (.tmp 63) (.tmp 69) 35 rfl w.heap.size 41 i1 (.int .i8 0) 1 1 Tryd.underlying35 hi1 hz10 hz11 hz12 rfl (by decide) _ k _ rfl ((OA0.alloc _).at_ 0 rfl (lenM _ _ _ hk)) ⟨_, 0, none⟩ 1 1 [.int .i8 (IntKind.i8.wrap x)] rfl rfl (cell_one_new _ _ _) (one1 _ _) hm3 hm1 (le_alloc hs0 _) ?_)
      intro u1 w11 ho1 hg1 _ ha1
      rw [H1.out] at ho1
      have OA1 := OA0.grow _ 0 rfl ho1 hg1 ha1
      have hb1 := grow_below (OA0.at_ 0 rfl (lenM _ _ _ hk)) hb0 hs0 hg1
      have hs1 := hb1.size
      have hc1 := bl_cell hb1 HW.out
      clear OA0 ho1 hg1 ha1 hc0 hs0
      go_wp2_with (at_builtin; refine wpList_append_own_at _ rfl (.tmp 71) (.tmp 77) 36 rfl w.heap.size 42 i2 (.int .i16 0) 1 2 Tryd.underlying36 hi2 hz20 hz21 hz22 rfl (by decide) _ k _ rfl ((OA1.alloc _).at_ 1 rfl (lenM _ _ _ hk)) ⟨_, 0, none⟩ 1 1 [.int .i16 (IntKind.i16.wrap x)] rfl rfl (cell_one_new _ _ _) (one1 _ _) hm3 hm2 (le_alloc hs1 _) ?_)
      intro u2 w12 ho2 hg2 _ ha2
      rw [H2.out] at ho2
      have OA2 := OA1.grow _ 1 rfl ho2 hg2 ha2
      have hb2 := grow_below (OA1.at_ 1 rfl (lenM _ _ _ hk)) hb1 hs1 hg2
      have hs2 := hb2.size
      have hc2 := bl_cell hb2 HW.out
      clear OA1 ho2 hg2 ha2 hc1 hs1 hb1
      go_wp2_with (at_builtin; refine wpList_append_own_at _ rfl (.tmp 79) (.tmp 85) 37 rfl w.heap.size 21 i3 (.int .i32 0) 1 4 Tryd.underlying37 hi3 hz30 hz31 hz32 rfl (by decide) _ k _ rfl ((OA2.alloc _).at_ 2 rfl (lenM _ _ _ hk)) ⟨_, 0, none⟩ 1 1 [.int .i32 (wrap32 x)] rfl rfl (cell_one_new _ _ _) (one1 _ _) hm3 hm4 (le_alloc hs2 _) ?_)
      intro u3 w13 ho3 hg3 _ ha3
      rw [H3.out] at ho3
      have OA3 := OA2.grow _ 2 rfl ho3 hg3 ha3
      have hb3 := grow_below (OA2.at_ 2 rfl (lenM _ _ _ hk)) hb2 hs2 hg3
      have hs3 := hb3.size
      have hc3 := bl_cell hb3 HW.out
      clear OA2 ho3 hg3 ha3 hc2 hs2 hb2
      go_wp2_with (at_builtin; refine wpList_append_own_at _ rfl (.tmp 87) (.tmp 92) 38 rfl w.heap.size 3 i4 (.int .i64 0) 1 8 Tryd.underlying38 hi4 hz40 hz41 hz42 rfl (by decide) _ k _ rfl ((OA3.alloc _).at_ 3 rfl (lenT _ _ hk)) ⟨_, 0, none⟩ 1 1 [.int .i64 (x)] rfl rfl (cell_one_new _ _ _) (one1 _ _) hm3 hm8 (le_alloc hs3 _) ?_)
      intro u4 w14 ho4 hg4 _ ha4
      rw [H4.out] at ho4
      have OA4 := OA3.grow _ 3 rfl ho4 hg4 ha4
      have hb4 := grow_below (OA3.at_ 3 rfl (lenT _ _ hk)) hb3 hs3 hg4
      have hs4 := hb4.size
      have hc4 := bl_cell hb4 HW.out
      clear OA3 ho4 hg4 ha4 hc3 hs3 hb3
      go_wp2_with (at_builtin; refine wpList_append_own_at _ rfl (.tmp 94) (.tmp 100) 39 rfl w.heap.size 43 i5 (.int .i8 0) 1 1 Tryd.underlying39 hi5 hz50 hz51 hz52 rfl (by decide) _ k _ rfl ((OA4.alloc _).at_ 4 rfl (lenM _ _ _ hk)) ⟨_, 0, none⟩ 1 1 [.int .i8 (IntKind.i8.wrap x)] rfl rfl (cell_one_new _ _ _) (one1 _ _) hm3 hm1 (le_alloc hs4 _) ?_)
      intro u5 w15 ho5 hg5 _ ha5
      rw [H5.out] at ho5
      have OA5 := OA4.grow _ 4 rfl ho5 hg5 ha5
      have hb5 := grow_below (OA4.at_ 4 rfl (lenM _ _ _ hk)) hb4 hs4 hg5
      have hs5 := hb5.size
      have hc5 := bl_cell hb5 HW.out
      clear OA4 ho5 hg5 ha5 hc4 hs4 hb4
      go_wp2_with (at_builtin; refine wpList_append_own_at _ rfl (.tmp 102) (.tmp 107) 40 rfl w.heap.size 44 i6 (.int .i64 0) 1 8 Tryd.underlying40 hi6 hz60 hz61 hz62 rfl (by decide) _ k _ rfl ((OA5.alloc _).at_ 5 rfl (lenT _ _ hk)) ⟨_, 0, none⟩ 1 1 [.int .i64 (x)] rfl rfl (cell_one_new _ _ _) (one1 _ _) hm3 hm8 (le_alloc hs5 _) ?_)
      intro u6 w16 ho6 hg6 _ ha6
      rw [H6.out] at ho6
      have OA6 := OA5.grow _ 5 rfl ho6 hg6 ha6
      have hb6 := grow_below (OA5.at_ 5 rfl (lenT _ _ hk)) hb5 hs5 hg6
      have hs6 := hb6.size
      have hc6 := bl_cell hb6 HW.out
      clear OA5 ho6 hg6 ha6 hc5 hs5 hb5
      go_wp2_with (at_builtin; refine wpList_append_own_at _ rfl (.tmp 109) (.tmp 116) 30 rfl w.heap.size 2 i7 (.int .i64 0) 1 8 Tryd.underlying30 hi7 hz70 hz71 hz72 rfl (by decide) _ k _ rfl ((OA6.alloc _).at_ 6 rfl (lenM _ _ _ hk)) ⟨_, 0, none⟩ 1 1 [.int .i64 (wrap64 (IntKind.i8.wrap x))] rfl rfl (cell_one_new _ _ _) (one1 _ _) hm3 hm8 (le_alloc hs6 _) ?_)
      intro u7 w17 ho7 hg7 _ ha7
      rw [w_IntKindi8wrap x, H7.out] at ho7
      have OA7 := OA6.grow _ 6 rfl ho7 hg7 ha7
      have hb7 := grow_below (OA6.at_ 6 rfl (lenM _ _ _ hk)) hb6 hs6 hg7
      have hs7 := hb7.size
      have hc7 := bl_cell hb7 HW.out
      clear OA6 ho7 hg7 ha7 hc6 hs6 hb6
      go_wp2_with (at_builtin; refine wpList_append_own_at _ rfl (.tmp 118) (.tmp 125) 30 rfl w.heap.size 2 i7 (.int .i64 0) 1 8 Tryd.underlying30 hi7 hz70 hz71 hz72 rfl (by decide) _ k _ rfl ((OA7.alloc _).at_ 7 rfl (lenM _ _ _ hk)) ⟨_, 0, none⟩ 1 1 [.int .i64 (wrap64 (IntKind.i16.wrap x))] rfl rfl (cell_one_new _ _ _) (one1 _ _) hm3 hm8 (le_alloc hs7 _) ?_)
      intro u8 w18 ho8 hg8 _ ha8
      rw [w_IntKindi16wrap x, H8.out] at ho8
      have OA8 := OA7.grow _ 7 rfl ho8 hg8 ha8
      have hb8 := grow_below (OA7.at_ 7 rfl (lenM _ _ _ hk)) hb7 hs7 hg8
      have hs8 := hb8.size
      have hc8 := bl_cell hb8 HW.out
      clear OA7 ho8 hg8 ha8 hc7 hs7 hb7
      go_wp2_with (at_builtin; refine wpList_append_own_at _ rfl (.tmp 127) (.tmp 134) 30 rfl w.heap.size 2 i7 (.int .i64 0) 1 8 Tryd.underlying30 hi7 hz70 hz71 hz72 rfl (by decide) _ k _ rfl ((OA8.alloc _).at_ 8 rfl (lenM _ _ _ hk)) ⟨_, 0, none⟩ 1 1 [.int .i64 (wrap64 (wrap32 x))] rfl rfl (cell_one_new _ _ _) (one1 _ _) hm3 hm8 (le_alloc hs8 _) ?_)
      intro u9 w19 ho9 hg9 _ ha9
      rw [w_wrap32 x, H9.out] at ho9
      have OA9 := OA8.grow _ 8 rfl ho9 hg9 ha9
      have hb9 := grow_below (OA8.at_ 8 rfl (lenM _ _ _ hk)) hb8 hs8 hg9
      have hs9 := hb9.size
      have hc9 := bl_cell hb9 HW.out
      clear OA8 ho9 hg9 ha9 hc8 hs8 hb8
      go_wp2
      go_roundw
      case rel => exact ⟨k + 1, by omega, by go_num, OA9, hb9⟩
      case measure => simp [intOf]; omega
    · obtain rfl : k = z.length := by omega
      have o1 := OA0.at_ 0 rfl (lenM _ _ _ hk)
      rw [List.take_of_length_le (by simp)] at o1
      obtain ⟨B1, k1, rfl⟩ := ow_slice o1
      obtain ⟨r1, m1⟩ := RdI.of_own o1
      have o2 := OA0.at_ 1 rfl (lenM _ _ _ hk)
      rw [List.take_of_length_le (by simp)] at o2
      obtain ⟨B2, k2, rfl⟩ := ow_slice o2
      obtain ⟨r2, m2⟩ := RdI.of_own o2
      have o3 := OA0.at_ 2 rfl (lenM _ _ _ hk)
      rw [List.take_of_length_le (by simp)] at o3
      obtain ⟨A3, k3, rfl⟩ := ow_slice o3
      obtain ⟨r3, m3⟩ := RdI.of_own o3
      have o4 := OA0.at_ 3 rfl (lenT _ _ hk)
      rw [List.take_of_length_le (by simp)] at o4
      obtain ⟨A4, k4, rfl⟩ := ow_slice o4
      obtain ⟨r4, m4⟩ := RdI.of_own o4
      have o5 := OA0.at_ 4 rfl (lenM _ _ _ hk)
      rw [List.take_of_length_le (by simp)] at o5
      obtain ⟨A5, k5, rfl⟩ := ow_slice o5
      obtain ⟨r5, m5⟩ := RdI.of_own o5
      have o6 := OA0.at_ 5 rfl (lenT _ _ hk)
      rw [List.take_of_length_le (by simp)] at o6
      obtain ⟨A6, k6, rfl⟩ := ow_slice o6
      obtain ⟨r6, m6⟩ := RdI.of_own o6
      have o7 := OA0.at_ 6 rfl (lenM _ _ _ hk)
      rw [List.take_of_length_le (by simp)] at o7
      obtain ⟨A7, k7, rfl⟩ := ow_slice o7
      obtain ⟨r7, m7⟩ := RdI.of_own o7
      have o8 := OA0.at_ 7 rfl (lenM _ _ _ hk)
      rw [List.take_of_length_le (by simp)] at o8
      obtain ⟨A8, k8, rfl⟩ := ow_slice o8
      obtain ⟨r8, m8⟩ := RdI.of_own o8
      have o9 := OA0.at_ 8 rfl (lenM _ _ _ hk)
      rw [List.take_of_length_le (by simp)] at o9
      obtain ⟨A9, k9, rfl⟩ := ow_slice o9
      obtain ⟨r9, m9⟩ := RdI.of_own o9
      clear OA0 o1 o2 o3 o4 o5 o6 o7 o8 o9
      have n1 : z.length * 8 ≤ 140737488351232 := hn
      have q8 := in_i8 z
      have q16 := in_i16 z
      have q32 := in_i32 z
      go_wp2_with (first | (go_at_call 20; (with_reducible refine (sum_s8 _ _ _ _ _ r1 hn q8).mono ?_); rintro e x1 ⟨F1, rfl, okF1, nF1, hf1⟩; have NF1 := Lib.hid nF1; clear nF1; have hs1 := hf1) | (go_at_call 21; (with_reducible refine (sum_s16 _ _ _ _ _ (r2.below hs1) hn q16).mono ?_); rintro e x2 ⟨F2, rfl, okF2, nF2, hf2⟩; have NF2 := Lib.hid nF2; clear nF2; have hs2 := bl_then hs1 hf2) | (go_at_call 22; (with_reducible refine (sum_s32 _ _ _ _ _ (r3.below hs2) hn q32).mono ?_); rintro e x3 ⟨F3, rfl, okF3, nF3, hf3⟩; have NF3 := Lib.hid nF3; clear nF3; have hs3 := bl_then hs2 hf3) | (go_at_call 23; (with_reducible refine (sum_sI _ _ _ _ _ (r4.below hs3) hn hin).mono ?_); rintro e x4 ⟨F4, rfl, okF4, nF4, hf4⟩; have NF4 := Lib.hid nF4; clear nF4; have hs4 := bl_then hs3 hf4) | (go_at_call 24; (with_reducible refine (sum_sS _ _ _ _ _ (r5.below hs4) hn q8).mono ?_); rintro e x5 ⟨F5, rfl, okF5, nF5, hf5⟩; have NF5 := Lib.hid nF5; clear nF5; have hs5 := bl_then hs4 hf5) | (go_at_call 25; (with_reducible refine (sum_sL _ _ _ _ _ (r6.below hs5) hn hin).mono ?_); rintro e x6 ⟨F6, rfl, okF6, nF6, hf6⟩; have NF6 := Lib.hid nF6; clear nF6; have hs6 := bl_then hs5 hf6) | (go_at_call 26; (with_reducible refine (is_any _ _ F1 okF1 NF1.out _ _ _ _ _ (HG.out.below (bl_then hb0 hs6)) (r7.below hs6) m7 hn q8 rfl rfl).mono ?_); rintro e y1 ⟨rfl, hy1⟩; have ht1 := bl_then hs6 hy1) | (go_at_call 26; (with_reducible refine (is_any _ _ F2 okF2 NF2.out _ _ _ _ _ (HG.out.below (bl_then hb0 ht1)) (r8.below ht1) m8 hn q16 rfl rfl).mono ?_); rintro e y2 ⟨rfl, hy2⟩; have ht2 := bl_then ht1 hy2) | (go_at_call 26; (with_reducible refine (is_any _ _ F3 okF3 NF3.out _ _ _ _ _ (HG.out.below (bl_then hb0 ht2)) (r9.below ht2) m9 hn q32 rfl rfl).mono ?_); rintro e y3 ⟨rfl, hy3⟩; have ht3 := bl_then ht2 hy3) | (go_at_call 26; (with_reducible refine (is_any _ _ F4 okF4 NF4.out _ _ _ _ _ (HG.out.below (bl_then hb0 ht3)) (hr.below (bl_then hb0 ht3)) hc hn hin rfl rfl).mono ?_); rintro e y4 ⟨rfl, hy4⟩; have ht4 := bl_then ht3 hy4) | (go_at_call 26; (with_reducible refine (is_any _ _ F5 okF5 NF5.out _ _ _ _ _ (HG.out.below (bl_then hb0 ht4)) (r7.below ht4) m7 hn q8 rfl rfl).mono ?_); rintro e y5 ⟨rfl, hy5⟩; have ht5 := bl_then ht4 hy5) | (go_at_call 26; (with_reducible refine (is_any _ _ F6 okF6 NF6.out _ _ _ _ _ (HG.out.below (bl_then hb0 ht5)) (hr.below (bl_then hb0 ht5)) hc hn hin rfl rfl).mono ?_); rintro e y6 ⟨rfl, hy6⟩; have ht6 := bl_then ht5 hy6))
      go_ret
      exact ⟨rfl, bl_then hb0 ht6⟩
theorem RdI.of_row {k : IntKind} {w : World} {a : Option Addr} {len cap : Nat} {zs : List Int} (h : IsRow k w a len cap zs) : RdI w k a len (zs.take len) ∧ len ≤ cap ∧ ∀ x ∈ zs.take len, (Lit.int k x).wf = true := by
  rcases h with ⟨rfl, rfl, rfl, rfl⟩ | ⟨x, rfl, hl, hm, hz, hc, hw⟩
  · exact ⟨⟨rfl, by omega, fun h => absurd h (by omega)⟩, Nat.le_refl _, by simp⟩
  · refine ⟨⟨by simp; omega, by simp only [maxLen] at hm; omega, fun _ => ⟨x, rfl, fun j hj => ?_⟩⟩, hl, fun y hy => hw y (List.mem_of_mem_take hy)⟩
    rw [hc j (by omega)]
    simp [List.getD_eq_getElem?_getD, List.getElem?_take, hj]
theorem rowlaw_AmountSum (w : World) (hg : ErrT w) (a : Option Addr) (len cap : Nat) (z : List Int) (h : IsRow .i64 w a len cap z) (y : len * 8 ≤ 140737488351232) :
    Calls Tryd.prog 4 #[.slice a len cap] w fun e w' => e = .returned (.bool true) ∧ Below w.heap.size w w' := by
  obtain ⟨hr, hc, hw⟩ := RdI.of_row h
  exact law_AmountSum a len cap _ w hg hr hc y fun x hx => ok_i64 (hw x hx)
end Go.Proofs.YtccnfklemalmeaaDoor
