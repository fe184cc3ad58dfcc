/- Joined texts of this proof: RsX. -/
import Derived.Outline
import Derived.Test.YtphabkaiheplpaaGreatDoorRests42
/- custodylaw22.rests, its loop over the pairs. -/
set_option linter.unusedVariables false
set_option linter.unusedSimpArgs false
set_option maxRecDepth 100000
namespace Go.Proofs.YtphabkaiheplpaaGreatDoor
open Go.RowKit Go.Shelf Go.Maps

theorem aps_at (ps : List Pr) : ∀ (d j : Nat), d < ps.length → j < 3 → (ps.flatMap apC)[d * 3 + j]? = (apC (ps.getD d pr0))[j]? := by
  induction ps with
  | nil => intro d j h; cases h
  | cons e r ih =>
    intro d j h hj
    have hl : ∀ q, (apC q).length = 3 := fun _ => rfl
    cases d with
    | zero =>
      rw [List.flatMap_cons, List.getElem?_append_left (by rw [hl]; omega), Nat.zero_mul, Nat.zero_add]
      rfl
    | succ d =>
      rw [List.flatMap_cons, List.getElem?_append_right (by rw [hl]; omega), hl, show (d + 1) * 3 + j - 3 = d * 3 + j by omega, ih d j (by simpa using h) hj]
      rfl
theorem cnt_pair (L : List Nat) (Q : List Pr) (q : Pr) (h : q.d ≠ q.r) (i : Nat) : (if i = q.r then (if q.r = q.d then cntL L Q q.d + 1 else cntL L Q q.r) + 1 else if i = q.d then cntL L Q q.d + 1 else cntL L Q i) = cntL L (Q ++ [q]) i := by
  unfold cntL
  simp only [List.countP_append, List.countP_cons, List.countP_nil]
  by_cases h1 : i = q.r
  · subst h1
    rw [if_pos rfl, if_neg (Ne.symm h)]
    have e1 : (q.d == q.r) = false := beq_false_of_ne h
    have e2 : (q.r == q.r) = true := by simp
    rw [e1, e2]
    simp
    omega
  · rw [if_neg h1]
    have e2 : (q.r == i) = false := beq_false_of_ne (Ne.symm h1)
    by_cases h2 : i = q.d
    · subst h2
      rw [if_pos rfl]
      have e1 : (q.d == q.d) = true := by simp
      rw [e1, e2]
      simp
      omega
    · rw [if_neg h2]
      have e1 : (q.d == i) = false := beq_false_of_ne (Ne.symm h2)
      rw [e1, e2]
      simp
set_option maxHeartbeats 8000000 in
set_option maxRecDepth 1000000 in
theorem rests16 {W0 W : World} {S G A P1 : Option Addr} {n cs cg tb nA cA pc : Nat} {gl : Nat → Bool} {sl : List (Int × Nt)} {zs : List ByteArray} {tol : Int} {L : List Nat} {Q : List Pr} (u0 u5 u6 u7 u8 u9 u10 u12 u14 u15 u16 u17 u18 u19 u20 u21 u22 u23 u24 u25 u26 u27 u28 u29 u30 u31 u32 u33 u34 u35 u36 u37 u38 u39 u40 u41 u42 u43 u44 u45 u46 u47 u48 u49 u50 u51 u52 u53 u54 u55 u56 u57 u58 u59 u60 u61 u62 u63 u64 u65 u66 u67 u68 u69 u70 u71 u72 u73 u74 u75 u76 u77 u78 u79 u80 u81 u82 u83 u84 u85 u86 u87 u88 u89 u90 u91 u92 u93 u94 u95 u96 u97 u98 u99 u100 u101 u102 u103 u104 u105 u106 u107 u108 u109 u110 u111 u112 u113 u114 u115 u116 u117 u118 u119 u120 u121 u122 u123 u124 u125 u126 u127 u128 u129 u130 u131 u132 u133 u134 u135 u136 u137 u138 u139 u140 u141 u142 u143 u144 u145 u146 u147 u148 u149 u150 u151 u152 u153 u154 u155 u156 u157 u158 u159 u160 u161 u162 u163 u164 u165 u166 u167 u168 u169 u170 u171 u172 u173 u174 u175 u176 u177 u178 u179 u180 u181 u182 u183 u184 u185 u186 u187 u188 u189 u190 u191 u192 u193 u194 u195 u196 u197 u198 u199 u200 u201 u202 u203 u204 u205 u206 u207 u208 u209 u210 u211 u212 u213 u214 u215 u216 u217 : Value) {Φ : Ending → World → Prop}
    (hs : W0.ownsRow 0 28 28 (.slice S n cs) n (sl.flatMap sdC)) (hsl : sl.length = n) (hg : W0.ownsRow 0 4 1 (.slice G n cg) n (flags n gl)) (hl : Below W0.heap.size W0 W) (htb : W0.heap.size ≤ tb)
    (ht : W.ownsRow 0 3 1 (.slice (some ⟨tb, 0, none⟩) n n) n (times n (cntL L []))) (hp : W.ownsRow (tb + 1) 76 3 (.slice P1 Q.length pc) Q.length (Q.flatMap apC)) (hn : n ≤ 1000000000000) (hqn : Q.length ≤ 1000000000000) (hcn : ∀ i, L.length + 2 * Q.length ≤ 8000000000000 ∧ cntL L Q i ≤ 8000000000000)
    (hfit : ∀ W', Below W0.heap.size W0 W' → ∀ a b, a < n → b < n → Calls Tryz.prog 7 #[.agg (sideC (sl.getD a (0, nt0)).1 (sl.getD a (0, nt0)).2), .agg (sideC (sl.getD b (0, nt0)).1 (sl.getD b (0, nt0)).2), .slice A nA cA, .int .i64 tol] W' fun e w' => e = .returned (.tuple #[.int .i64 (fitE (sl.getD a (0, nt0)).1 (sl.getD b (0, nt0)).1 (sl.getD a (0, nt0)).2 (sl.getD b (0, nt0)).2 zs tol).1, .bool (fitE (sl.getD a (0, nt0)).1 (sl.getD b (0, nt0)).1 (sl.getD a (0, nt0)).2 (sl.getD b (0, nt0)).2 zs tol).2]) ∧ Below W'.heap.size W' w')
    (hq : ∀ q ∈ Q, q.d < n ∧ q.r < n ∧ q.d ≠ q.r ∧ fitE (sl.getD q.d (0, nt0)).1 (sl.getD q.r (0, nt0)).1 (sl.getD q.d (0, nt0)).2 (sl.getD q.r (0, nt0)).2 zs tol = (q.a, true))
    (hcnt : ∀ k, k < n → cntL L Q k = if gl k then 0 else 1)
    (post : ∀ W', Below W0.heap.size W0 W' → Φ (.returned (.bool true)) W') :
    Code.wp Tryz.prog (restsR 16) (bodyPost Tryz.prog Tryz.f15 Φ) ⟨#[u0, .slice A nA cA, .int .i64 tol, .slice S n cs, .slice G n cg, u5, u6, u7, u8, u9, u10, .slice (some ⟨tb, 0, none⟩) n n, u12, .slice P1 Q.length pc, u14, u15, u16, u17, u18, u19, u20, u21, u22, u23, u24, u25, u26, u27, u28, u29, u30, u31, u32, u33, u34, u35, u36, u37, u38, u39, u40, u41, u42, u43, u44, u45, u46, u47, u48, u49, u50, u51, u52, u53, u54, u55, u56, u57, u58, u59, u60, u61, u62, u63, u64, u65, u66, u67, u68, u69, u70, u71, u72, u73, u74, u75, u76, u77, u78, u79, u80, u81, u82, u83, u84, u85, u86, u87, u88, u89, u90, u91, u92, u93, u94, u95, u96, u97, u98, u99, u100, u101, u102, u103, u104, u105, u106, u107, u108, u109, u110, u111, u112, u113, u114, u115, u116, u117, u118, u119, u120, u121, u122, u123, u124, u125, u126, u127, u128, u129, u130, u131, u132, u133, u134, u135, u136, u137, u138, u139, u140, u141, u142, u143, u144, u145, u146, u147, u148, u149, u150, u151, u152, u153, u154, u155, u156, u157, u158, u159, u160, u161, u162, u163, u164, u165, u166, u167, u168, u169, u170, u171, u172, u173, u174, u175, u176, u177, u178, u179, u180, u181, u182, u183, u184, u185, u186, u187, u188, u189, u190, u191, u192, u193, u194, u195, u196, u197, u198, u199, u200, u201, u202, u203, u204, u205, u206, u207, u208, u209, u210, u211, u212, u213, u214, u215, u216, u217], []⟩ W := by
  have HS := Lib.hid hs
  have HSL := Lib.hid hsl
  have HG := Lib.hid hg
  have HL := Lib.hid hl
  have HTB := Lib.hid htb
  have HT := Lib.hid ht
  have HP := Lib.hid hp
  have HN := Lib.hid hn
  have HQN := Lib.hid hqn
  have HCN := Lib.hid hcn
  have HF := Lib.hid hfit
  have HQ := Lib.hid hq
  have HC := Lib.hid hcnt
  have HPO := Lib.hid post
  clear hs hsl hg hl htb ht hp hn hqn hcn hfit hq hcnt post
  conv => arg 2; whnf
  dsimp only
  go_wp2
  rename_i hK27
  go_loopg [18, 19, 20, 21] Q.length (fun g v18 v19 v20 v21 wr => ∃ k : Nat, v18 = .int .i64 k ∧ k ≤ Q.length ∧ Q.length - k ≤ g ∧ Hid (Below W0.heap.size W0 wr) ∧ Hid (wr.ownsRow (tb + 1) 76 3 (.slice P1 Q.length pc) Q.length (Q.flatMap apC)) ∧ Hid (wr.ownsRow 0 3 1 (.slice (some ⟨tb, 0, none⟩) n n) n (times n (cntL L (Q.take k)))))
  case atStart => exact ⟨0, rfl, by omega, by omega, HL, HP, HT⟩
  case round =>
    obtain ⟨k, rfl, hk, hg, HB, HPR, HTR⟩ := hrel
    by_cases hlt : k < Q.length
    · have hltz : (k : Int) < (Q.length : Int) := by omega
      have hk63 : (k : Int) + 1 ≤ 2000000000000 := by have := HQN.out; omega
      obtain ⟨pg, rfl⟩ := own_addr HPR.out (by omega)
      have hqk := HQ.out (Q.getD k pr0) (pr_mem hlt)
      have htk : Q.take (k + 1) = Q.take k ++ [Q.getD k pr0] := by rw [List.take_add_one, List.getD_eq_getElem?_getD, List.getElem?_eq_getElem hlt]; rfl
      have cc : ∀ j, j < 3 → wr.cell? ⟨pg, k * 3 + j, none⟩ = (apC (Q.getD k pr0))[j]? := fun j hj => by rw [HPR.out.cellAt (k * 3 + j) (by omega), aps_at Q k j hlt hj]
      have hcb : ∀ i, cntL L (Q.take k) i ≤ 8000000000000 := fun i => by
        have h1 := (HCN.out i).2
        have h2 : (Q.take k).countP (fun q => q.d == i) ≤ Q.countP (fun q => q.d == i) := (List.take_sublist k Q).countP_le
        have h3 : (Q.take k).countP (fun q => q.r == i) ≤ Q.countP (fun q => q.r == i) := (List.take_sublist k Q).countP_le
        unfold cntL at *
        omega
      generalize Q.getD k pr0 = q at hqk htk cc
      have d0 : wr.cell? ⟨pg, k * 3, none⟩ = some (.int .i64 (q.d : Int)) := cc 0 (by omega)
      have d1 : wr.cell? ⟨pg, k * 3 + 1, none⟩ = some (.int .i64 (q.r : Int)) := cc 1 (by omega)
      have d2 : wr.cell? ⟨pg, k * 3 + 2, none⟩ = some (.int .i64 q.a) := cc 2 (by omega)
      have HQK := Lib.hid hqk
      have HTK := Lib.hid htk
      have HCB := Lib.hid hcb
      clear cc hqk htk hcb
      go_upto_region 20 with fail
      have hb3 := bl_alloc (bl_refl wr) (.cells #[.int .i64 (q.d : Int), .int .i64 (q.r : Int), .int .i64 q.a] 76)
      have HB3 := Lib.hid (bl_then HB.out hb3)
      have HP3 := Lib.hid (ow_none HPR.out (gb_below hb3))
      have HT3 := Lib.hid (ow_none HTR.out (gb_below hb3))
      have g3 := heap_alloc_new wr (.cells #[.int .i64 (q.d : Int), .int .i64 (q.r : Int), .int .i64 q.a] 76)
      have HNT : Hid (tb < wr.heap.size) := Lib.hid (row_lt HTR.out rfl)
      clear hb3 HB HPR HTR d0 d1 d2
      generalize wr.alloc (.cells #[.int .i64 (q.d : Int), .int .i64 (q.r : Int), .int .i64 q.a] 76) = W3 at HB3 HP3 HT3 g3 ⊢
      generalize wr.heap.size = N at g3 HNT ⊢
      have HG3 := Lib.hid g3
      have e0 : W3.cell? ⟨N, 0, none⟩ = some (.int .i64 (q.d : Int)) := cell_of_row W3 N 0 _ _ _ g3
      have e1 : W3.cell? ⟨N, 1, none⟩ = some (.int .i64 (q.r : Int)) := cell_of_row W3 N 1 _ _ _ g3
      have x1 : ¬ ((q.d : Int) < 0) := by omega
      have x2 : (q.d : Int) < (n : Int) := by have := HQK.out.1; omega
      have x3 : ¬ ((q.r : Int) < 0) := by omega
      have x4 : (q.r : Int) < (n : Int) := by have := HQK.out.2.1; omega
      have x5 : ¬ ((n : Int) ≤ (q.d : Int)) := by omega
      have x6 : ¬ ((n : Int) ≤ (q.r : Int)) := by omega
      clear g3
      go_upto_region 22 with fail
      clear x1 x2 x3 x4 x5 x6 e0 e1
      have hdI : (q.d : Int) < (n : Int) := by have := HQK.out.1; omega
      have hrI : (q.r : Int) < (n : Int) := by have := HQK.out.2.1; omega
      obtain ⟨t, ht⟩ : ∃ t, t = cntL L (Q.take k) q.d := ⟨_, rfl⟩
      have ht63 : (t : Int) + 1 ≤ 9000000000000 := by have := HCB.out q.d; omega
      have hwr : IntKind.i64.wrap ((t : Int) + 1) = (t : Int) + 1 := by rw [IntKind.wrap_i64]; omega
      have ct : W3.cell? ⟨tb, q.d, none⟩ = some (.int .i64 (t : Int)) := by have := HT3.out.cellAt q.d (by rw [Nat.mul_one]; exact HQK.out.1); rw [times_at _ HQK.out.1, ← ht] at this; exact this
      have ft : W3.frozen? ⟨tb, q.d, none⟩ = false := HT3.out.frozenAt _
      have HTE := Lib.hid ht
      clear ht
      have HB4 : Hid (Below W0.heap.size W0 W3.drew) := Lib.hid (bl_drew HB3.out)
      have HP4 := Lib.hid (ow_none HP3.out (gb_below (bl_drew (bl_refl W3))))
      have HT4 := Lib.hid (ow_none HT3.out (gb_below (bl_drew (bl_refl W3))))
      have HG4 : Hid (W3.drew.heap[N]? = some (.cells #[.int .i64 (q.d : Int), .int .i64 (q.r : Int), .int .i64 q.a] 76 (0, 0))) := Lib.hid HG3.out
      clear HB3 HP3 HT3
      refine wp_region_heldE (S := fun W1 => W1.heap[N]? = some (.cells #[.int .i64 (q.d : Int), .int .i64 (q.r : Int), .int .i64 q.a] 76 (0, 0)) ∧ W1.cell? ⟨tb, q.d, none⟩ = some (.int .i64 (t : Int)) ∧ W1.frozen? ⟨tb, q.d, none⟩ = false) (ds := [10]) (by kernel_rfl) (⟨HG4.out, ct, ft⟩) (fun hHeld => ?_)
      refine wpAnyE_take (i := 0) (oi := ({ dst := some 143, op := Op.move (Operand.tmp 11), type := 94, pos := "outright.go:116", after := #[], guard := none } : Oper)) (v := ?_) rfl (by kernel_rfl) (by kernel_rfl) (by kernel_rfl) (by kernel_rfl) (fun _ _ _ h => h) (Or.inl ⟨by rfl, ?_⟩) hHeld ?_
      rotate_left
      · intro w' hSw; (try dsimp only at hSw); go_simp <;> with_reducible rfl
      try simp only [Act.put, List.setIfInBounds_toArray, List.set_cons_zero, List.set_cons_succ]
      refine wpAnyE_take (i := 1) (oi := ({ dst := some 144, op := Op.fieldAddr 76 (Operand.tmp 19) 0, type := 0, pos := "outright.go:116", after := #[], guard := none } : Oper)) (v := ?_) rfl (by kernel_rfl) (by kernel_rfl) (by kernel_rfl) (by kernel_rfl) (fun _ _ _ h => h) (Or.inl ⟨by rfl, ?_⟩) hHeld ?_
      rotate_left
      · intro w' hSw; (try dsimp only at hSw); go_simp <;> with_reducible rfl
      try simp only [Act.put, List.setIfInBounds_toArray, List.set_cons_zero, List.set_cons_succ]
      refine wpAnyE_take (i := 2) (oi := ({ dst := some 145, op := Op.load 3 (Operand.tmp 144), type := 3, pos := "outright.go:116", after := #[{ on := 1, ground := Ground.data }], guard := none } : Oper)) (v := ?_) rfl (by kernel_rfl) (by kernel_rfl) (by kernel_rfl) (by kernel_rfl) (fun _ _ _ h => h) (Or.inl ⟨by rfl, ?_⟩) hHeld ?_
      rotate_left
      · intro w' hSw; (try dsimp only at hSw); have hcf := cell_of_row w' N 0 _ _ _ hSw.1; go_simp <;> with_reducible rfl
      try simp only [Act.put, List.setIfInBounds_toArray, List.set_cons_zero, List.set_cons_succ]
      refine wpAnyE_take (i := 3) (oi := ({ dst := some 146, op := Op.move (Operand.tmp 11), type := 94, pos := "outright.go:116", after := #[], guard := none } : Oper)) (v := ?_) rfl (by kernel_rfl) (by kernel_rfl) (by kernel_rfl) (by kernel_rfl) (fun _ _ _ h => h) (Or.inl ⟨by rfl, ?_⟩) hHeld ?_
      rotate_left
      · intro w' hSw; (try dsimp only at hSw); go_simp <;> with_reducible rfl
      try simp only [Act.put, List.setIfInBounds_toArray, List.set_cons_zero, List.set_cons_succ]
      refine wpAnyE_take (i := 4) (oi := ({ dst := some 147, op := Op.fieldAddr 76 (Operand.tmp 19) 0, type := 0, pos := "outright.go:116", after := #[], guard := none } : Oper)) (v := ?_) rfl (by kernel_rfl) (by kernel_rfl) (by kernel_rfl) (by kernel_rfl) (fun _ _ _ h => h) (Or.inl ⟨by rfl, ?_⟩) hHeld ?_
      rotate_left
      · intro w' hSw; (try dsimp only at hSw); go_simp <;> with_reducible rfl
      try simp only [Act.put, List.setIfInBounds_toArray, List.set_cons_zero, List.set_cons_succ]
      refine wpAnyE_take (i := 5) (oi := ({ dst := some 148, op := Op.load 3 (Operand.tmp 147), type := 3, pos := "outright.go:116", after := #[{ on := 4, ground := Ground.data }], guard := none } : Oper)) (v := ?_) rfl (by kernel_rfl) (by kernel_rfl) (by kernel_rfl) (by kernel_rfl) (fun _ _ _ h => h) (Or.inl ⟨by rfl, ?_⟩) hHeld ?_
      rotate_left
      · intro w' hSw; (try dsimp only at hSw); have hcf := cell_of_row w' N 0 _ _ _ hSw.1; go_simp <;> with_reducible rfl
      try simp only [Act.put, List.setIfInBounds_toArray, List.set_cons_zero, List.set_cons_succ]
      refine wpAnyE_take (i := 6) (oi := ({ dst := some 149, op := Op.indexAddr 94 (Operand.tmp 146) (Operand.tmp 148), type := 0, pos := "outright.go:116", after := #[{ on := 3, ground := Ground.data }, { on := 5, ground := Ground.data }], guard := none } : Oper)) (v := ?_) rfl (by kernel_rfl) (by kernel_rfl) (by kernel_rfl) (by kernel_rfl) (fun _ _ _ h => h) (Or.inl ⟨by rfl, ?_⟩) hHeld ?_
      rotate_left
      · intro w' hSw; (try dsimp only at hSw); go_simp <;> with_reducible rfl
      try simp only [Act.put, List.setIfInBounds_toArray, List.set_cons_zero, List.set_cons_succ]
      refine wpAnyE_take (i := 7) (oi := ({ dst := some 150, op := Op.load 3 (Operand.tmp 149), type := 3, pos := "outright.go:116", after := #[{ on := 6, ground := Ground.data }], guard := none } : Oper)) (v := ?_) rfl (by kernel_rfl) (by kernel_rfl) (by kernel_rfl) (by kernel_rfl) (fun _ _ _ h => h) (Or.inl ⟨by rfl, ?_⟩) hHeld ?_
      rotate_left
      · intro w' hSw; (try dsimp only at hSw); have hcf := hSw.2.1; go_simp <;> with_reducible rfl
      try simp only [Act.put, List.setIfInBounds_toArray, List.set_cons_zero, List.set_cons_succ]
      refine wpAnyE_take (i := 8) (oi := ({ dst := some 151, op := Op.binOp BinOp.add 3 (Operand.tmp 150) (Operand.const (Value.int IntKind.i64 1)) 3, type := 3, pos := "outright.go:116", after := #[{ on := 7, ground := Ground.data }], guard := none } : Oper)) (v := ?_) rfl (by kernel_rfl) (by kernel_rfl) (by kernel_rfl) (by kernel_rfl) (fun _ _ _ h => h) (Or.inl ⟨by rfl, ?_⟩) hHeld ?_
      rotate_left
      · intro w' hSw; (try dsimp only at hSw); go_simp <;> with_reducible rfl
      try simp only [Act.put, List.setIfInBounds_toArray, List.set_cons_zero, List.set_cons_succ]
      refine wpAnyE_take (i := 9) (oi := ({ dst := some 152, op := Op.indexAddr 94 (Operand.tmp 143) (Operand.tmp 145), type := 0, pos := "outright.go:116", after := #[{ on := 0, ground := Ground.data }, { on := 2, ground := Ground.data }, { on := 0, ground := Ground.phase }, { on := 1, ground := Ground.phase }, { on := 2, ground := Ground.phase }, { on := 3, ground := Ground.phase }, { on := 4, ground := Ground.phase }, { on := 5, ground := Ground.phase }, { on := 6, ground := Ground.phase }, { on := 7, ground := Ground.phase }, { on := 8, ground := Ground.phase }], guard := none } : Oper)) (v := ?_) rfl (by kernel_rfl) (by kernel_rfl) (by kernel_rfl) (by kernel_rfl) (fun _ _ _ h => h) (Or.inl ⟨by rfl, ?_⟩) hHeld ?_
      rotate_left
      · intro w' hSw; (try dsimp only at hSw); go_simp <;> with_reducible rfl
      try simp only [Act.put, List.setIfInBounds_toArray, List.set_cons_zero, List.set_cons_succ]
      refine wpAnyE_ready (rs := [10]) (by kernel_rfl) (by simp) ?_
      refine AllReadyE.cons (o := ({ dst := none, op := Op.store 3 (Operand.tmp 152) (Operand.tmp 151), type := 0, pos := "outright.go:116", after := #[{ on := 9, ground := Ground.data }, { on := 8, ground := Ground.data }, { on := 0, ground := Ground.phase }, { on := 1, ground := Ground.phase }, { on := 2, ground := Ground.phase }, { on := 3, ground := Ground.phase }, { on := 4, ground := Ground.phase }, { on := 5, ground := Ground.phase }, { on := 6, ground := Ground.phase }, { on := 7, ground := Ground.phase }, { on := 8, ground := Ground.phase }], guard := none } : Oper)) rfl (fun K hK => ?_) AllReadyE.nil
      clear ct ft HG3
      generalize W3.drew = W4 at HB4 HP4 HT4 HG4 hHeld ⊢
      obtain ⟨_, c1, f1⟩ := hHeld
      go_simp
      refine hK.out _ _ (Or.inl ⟨10, by simp, by kernel_rfl⟩) (fun _ => ?_)
      clear hK K
      try clear hHeld
      try clear hb
      try simp only [Act.put, List.setIfInBounds_toArray, List.set_cons_zero, List.set_cons_succ]
      refine wpAnyE_done (by kernel_rfl) ?_ _
      have hst := HT4.out.stored q.d (.int .i64 (((t + 1 : Nat) : Int)))
      rw [times_set _ _ HQK.out.1] at hst
      have HB5 : Hid (Below W0.heap.size W0 (W4.setCell ⟨tb, q.d, none⟩ (.int .i64 ((t : Int) + 1)))) := Lib.hid (HB4.out.setCell HTB.out _)
      have HP5 : Hid ((W4.setCell ⟨tb, q.d, none⟩ (.int .i64 ((t : Int) + 1))).ownsRow (tb + 1) 76 3 (.slice (some ⟨pg, 0, none⟩) Q.length pc) Q.length (Q.flatMap apC)) := Lib.hid (ow_set2 HP4.out _ _ (Nat.lt_succ_self _))
      have HT5 : Hid ((W4.setCell ⟨tb, q.d, none⟩ (.int .i64 ((t : Int) + 1))).ownsRow 0 3 1 (.slice (some ⟨tb, 0, none⟩) n n) n (times n (fun i => if i = q.d then t + 1 else cntL L (Q.take k) i))) := Lib.hid hst.1
      have HG5 : Hid ((W4.setCell ⟨tb, q.d, none⟩ (.int .i64 ((t : Int) + 1))).heap[N]? = some (.cells #[.int .i64 (q.d : Int), .int .i64 (q.r : Int), .int .i64 q.a] 76 (0, 0))) := Lib.hid (blk_ne HG4.out (show N ≠ tb by have := HNT.out; omega) (gb_cell W4 ⟨tb, q.d, none⟩ _))
      clear hst HB4 HP4 HT4 HG4 c1 f1 hwr ht63
      generalize W4.setCell ⟨tb, q.d, none⟩ (.int .i64 ((t : Int) + 1)) = W5 at HB5 HP5 HT5 HG5 ⊢
      obtain ⟨s, hs⟩ : ∃ s, s = (if q.r = q.d then t + 1 else cntL L (Q.take k) q.r) := ⟨_, rfl⟩
      have hs63 : (s : Int) + 1 ≤ 9000000000000 := by
        have h1 := HCB.out q.d
        have h2 := HCB.out q.r
        have h3 := HTE.out
        rw [hs]
        split <;> omega
      have hwr : IntKind.i64.wrap ((s : Int) + 1) = (s : Int) + 1 := by rw [IntKind.wrap_i64]; omega
      have ct : W5.cell? ⟨tb, q.r, none⟩ = some (.int .i64 (s : Int)) := by have := HT5.out.cellAt q.r (by rw [Nat.mul_one]; exact HQK.out.2.1); rw [times_at _ HQK.out.2.1, ← hs] at this; exact this
      have ft : W5.frozen? ⟨tb, q.r, none⟩ = false := HT5.out.frozenAt _
      have HSE := Lib.hid hs
      clear hs
      go_upto_region 23 with fail
      have HB6 : Hid (Below W0.heap.size W0 W5.drew) := Lib.hid (bl_drew HB5.out)
      have HP6 := Lib.hid (ow_none HP5.out (gb_below (bl_drew (bl_refl W5))))
      have HT6 := Lib.hid (ow_none HT5.out (gb_below (bl_drew (bl_refl W5))))
      have HG6 : Hid (W5.drew.heap[N]? = some (.cells #[.int .i64 (q.d : Int), .int .i64 (q.r : Int), .int .i64 q.a] 76 (0, 0))) := Lib.hid HG5.out
      clear HB5 HP5 HT5 HG5
      refine wp_region_heldE (S := fun W1 => W1.heap[N]? = some (.cells #[.int .i64 (q.d : Int), .int .i64 (q.r : Int), .int .i64 q.a] 76 (0, 0)) ∧ W1.cell? ⟨tb, q.r, none⟩ = some (.int .i64 (s : Int)) ∧ W1.frozen? ⟨tb, q.r, none⟩ = false) (ds := [10]) (by kernel_rfl) (⟨HG6.out, ct, ft⟩) (fun hHeld => ?_)
      refine wpAnyE_take (i := 0) (oi := ({ dst := some 153, op := Op.move (Operand.tmp 11), type := 94, pos := "outright.go:117", after := #[], guard := none } : Oper)) (v := ?_) rfl (by kernel_rfl) (by kernel_rfl) (by kernel_rfl) (by kernel_rfl) (fun _ _ _ h => h) (Or.inl ⟨by rfl, ?_⟩) hHeld ?_
      rotate_left
      · intro w' hSw; (try dsimp only at hSw); go_simp <;> with_reducible rfl
      try simp only [Act.put, List.setIfInBounds_toArray, List.set_cons_zero, List.set_cons_succ]
      refine wpAnyE_take (i := 1) (oi := ({ dst := some 154, op := Op.fieldAddr 76 (Operand.tmp 19) 1, type := 0, pos := "outright.go:117", after := #[], guard := none } : Oper)) (v := ?_) rfl (by kernel_rfl) (by kernel_rfl) (by kernel_rfl) (by kernel_rfl) (fun _ _ _ h => h) (Or.inl ⟨by rfl, ?_⟩) hHeld ?_
      rotate_left
      · intro w' hSw; (try dsimp only at hSw); go_simp <;> with_reducible rfl
      try simp only [Act.put, List.setIfInBounds_toArray, List.set_cons_zero, List.set_cons_succ]
      refine wpAnyE_take (i := 2) (oi := ({ dst := some 155, op := Op.load 3 (Operand.tmp 154), type := 3, pos := "outright.go:117", after := #[{ on := 1, ground := Ground.data }], guard := none } : Oper)) (v := ?_) rfl (by kernel_rfl) (by kernel_rfl) (by kernel_rfl) (by kernel_rfl) (fun _ _ _ h => h) (Or.inl ⟨by rfl, ?_⟩) hHeld ?_
      rotate_left
      · intro w' hSw; (try dsimp only at hSw); have hcf := cell_of_row w' N 1 _ _ _ hSw.1; go_simp <;> with_reducible rfl
      try simp only [Act.put, List.setIfInBounds_toArray, List.set_cons_zero, List.set_cons_succ]
      refine wpAnyE_take (i := 3) (oi := ({ dst := some 156, op := Op.move (Operand.tmp 11), type := 94, pos := "outright.go:117", after := #[], guard := none } : Oper)) (v := ?_) rfl (by kernel_rfl) (by kernel_rfl) (by kernel_rfl) (by kernel_rfl) (fun _ _ _ h => h) (Or.inl ⟨by rfl, ?_⟩) hHeld ?_
      rotate_left
      · intro w' hSw; (try dsimp only at hSw); go_simp <;> with_reducible rfl
      try simp only [Act.put, List.setIfInBounds_toArray, List.set_cons_zero, List.set_cons_succ]
      refine wpAnyE_take (i := 4) (oi := ({ dst := some 157, op := Op.fieldAddr 76 (Operand.tmp 19) 1, type := 0, pos := "outright.go:117", after := #[], guard := none } : Oper)) (v := ?_) rfl (by kernel_rfl) (by kernel_rfl) (by kernel_rfl) (by kernel_rfl) (fun _ _ _ h => h) (Or.inl ⟨by rfl, ?_⟩) hHeld ?_
      rotate_left
      · intro w' hSw; (try dsimp only at hSw); go_simp <;> with_reducible rfl
      try simp only [Act.put, List.setIfInBounds_toArray, List.set_cons_zero, List.set_cons_succ]
      refine wpAnyE_take (i := 5) (oi := ({ dst := some 158, op := Op.load 3 (Operand.tmp 157), type := 3, pos := "outright.go:117", after := #[{ on := 4, ground := Ground.data }], guard := none } : Oper)) (v := ?_) rfl (by kernel_rfl) (by kernel_rfl) (by kernel_rfl) (by kernel_rfl) (fun _ _ _ h => h) (Or.inl ⟨by rfl, ?_⟩) hHeld ?_
      rotate_left
      · intro w' hSw; (try dsimp only at hSw); have hcf := cell_of_row w' N 1 _ _ _ hSw.1; go_simp <;> with_reducible rfl
      try simp only [Act.put, List.setIfInBounds_toArray, List.set_cons_zero, List.set_cons_succ]
      refine wpAnyE_take (i := 6) (oi := ({ dst := some 159, op := Op.indexAddr 94 (Operand.tmp 156) (Operand.tmp 158), type := 0, pos := "outright.go:117", after := #[{ on := 3, ground := Ground.data }, { on := 5, ground := Ground.data }], guard := none } : Oper)) (v := ?_) rfl (by kernel_rfl) (by kernel_rfl) (by kernel_rfl) (by kernel_rfl) (fun _ _ _ h => h) (Or.inl ⟨by rfl, ?_⟩) hHeld ?_
      rotate_left
      · intro w' hSw; (try dsimp only at hSw); go_simp <;> with_reducible rfl
      try simp only [Act.put, List.setIfInBounds_toArray, List.set_cons_zero, List.set_cons_succ]
      refine wpAnyE_take (i := 7) (oi := ({ dst := some 160, op := Op.load 3 (Operand.tmp 159), type := 3, pos := "outright.go:117", after := #[{ on := 6, ground := Ground.data }], guard := none } : Oper)) (v := ?_) rfl (by kernel_rfl) (by kernel_rfl) (by kernel_rfl) (by kernel_rfl) (fun _ _ _ h => h) (Or.inl ⟨by rfl, ?_⟩) hHeld ?_
      rotate_left
      · intro w' hSw; (try dsimp only at hSw); have hcf := hSw.2.1; go_simp <;> with_reducible rfl
      try simp only [Act.put, List.setIfInBounds_toArray, List.set_cons_zero, List.set_cons_succ]
      refine wpAnyE_take (i := 8) (oi := ({ dst := some 161, op := Op.binOp BinOp.add 3 (Operand.tmp 160) (Operand.const (Value.int IntKind.i64 1)) 3, type := 3, pos := "outright.go:117", after := #[{ on := 7, ground := Ground.data }], guard := none } : Oper)) (v := ?_) rfl (by kernel_rfl) (by kernel_rfl) (by kernel_rfl) (by kernel_rfl) (fun _ _ _ h => h) (Or.inl ⟨by rfl, ?_⟩) hHeld ?_
      rotate_left
      · intro w' hSw; (try dsimp only at hSw); go_simp <;> with_reducible rfl
      try simp only [Act.put, List.setIfInBounds_toArray, List.set_cons_zero, List.set_cons_succ]
      refine wpAnyE_take (i := 9) (oi := ({ dst := some 162, op := Op.indexAddr 94 (Operand.tmp 153) (Operand.tmp 155), type := 0, pos := "outright.go:117", after := #[{ on := 0, ground := Ground.data }, { on := 2, ground := Ground.data }, { on := 0, ground := Ground.phase }, { on := 1, ground := Ground.phase }, { on := 2, ground := Ground.phase }, { on := 3, ground := Ground.phase }, { on := 4, ground := Ground.phase }, { on := 5, ground := Ground.phase }, { on := 6, ground := Ground.phase }, { on := 7, ground := Ground.phase }, { on := 8, ground := Ground.phase }], guard := none } : Oper)) (v := ?_) rfl (by kernel_rfl) (by kernel_rfl) (by kernel_rfl) (by kernel_rfl) (fun _ _ _ h => h) (Or.inl ⟨by rfl, ?_⟩) hHeld ?_
      rotate_left
      · intro w' hSw; (try dsimp only at hSw); go_simp <;> with_reducible rfl
      try simp only [Act.put, List.setIfInBounds_toArray, List.set_cons_zero, List.set_cons_succ]
      refine wpAnyE_ready (rs := [10]) (by kernel_rfl) (by simp) ?_
      refine AllReadyE.cons (o := ({ dst := none, op := Op.store 3 (Operand.tmp 162) (Operand.tmp 161), type := 0, pos := "outright.go:117", after := #[{ on := 9, ground := Ground.data }, { on := 8, ground := Ground.data }, { on := 0, ground := Ground.phase }, { on := 1, ground := Ground.phase }, { on := 2, ground := Ground.phase }, { on := 3, ground := Ground.phase }, { on := 4, ground := Ground.phase }, { on := 5, ground := Ground.phase }, { on := 6, ground := Ground.phase }, { on := 7, ground := Ground.phase }, { on := 8, ground := Ground.phase }], guard := none } : Oper)) rfl (fun K hK => ?_) AllReadyE.nil
      clear ct ft
      generalize W5.drew = W6 at HB6 HP6 HT6 HG6 hHeld ⊢
      obtain ⟨_, c1, f1⟩ := hHeld
      go_simp
      refine hK.out _ _ (Or.inl ⟨10, by simp, by kernel_rfl⟩) (fun _ => ?_)
      clear hK K
      try clear hHeld
      try clear hb
      try simp only [Act.put, List.setIfInBounds_toArray, List.set_cons_zero, List.set_cons_succ]
      refine wpAnyE_done (by kernel_rfl) ?_ _
      have hst := HT6.out.stored q.r (.int .i64 (((s + 1 : Nat) : Int)))
      rw [times_set _ _ HQK.out.2.1] at hst
      have HB7 : Hid (Below W0.heap.size W0 (W6.setCell ⟨tb, q.r, none⟩ (.int .i64 ((s : Int) + 1)))) := Lib.hid (HB6.out.setCell HTB.out _)
      have HP7 : Hid ((W6.setCell ⟨tb, q.r, none⟩ (.int .i64 ((s : Int) + 1))).ownsRow (tb + 1) 76 3 (.slice (some ⟨pg, 0, none⟩) Q.length pc) Q.length (Q.flatMap apC)) := Lib.hid (ow_set2 HP6.out _ _ (Nat.lt_succ_self _))
      have HT7 : Hid ((W6.setCell ⟨tb, q.r, none⟩ (.int .i64 ((s : Int) + 1))).ownsRow 0 3 1 (.slice (some ⟨tb, 0, none⟩) n n) n (times n (cntL L (Q.take (k + 1))))) := Lib.hid (by
        have e1 : times n (cntL L (Q.take (k + 1))) = times n (fun i => if i = q.r then s + 1 else if i = q.d then t + 1 else cntL L (Q.take k) i) := times_congr (fun i _ => by
          rw [HTK.out, ← cnt_pair L (Q.take k) q HQK.out.2.2.1 i, HSE.out, HTE.out])
        rw [e1]
        exact hst.1)
      have HG7 : Hid ((W6.setCell ⟨tb, q.r, none⟩ (.int .i64 ((s : Int) + 1))).heap[N]? = some (.cells #[.int .i64 (q.d : Int), .int .i64 (q.r : Int), .int .i64 q.a] 76 (0, 0))) := Lib.hid (blk_ne HG6.out (show N ≠ tb by have := HNT.out; omega) (gb_cell W6 ⟨tb, q.r, none⟩ _))
      clear hst HB6 HP6 HT6 HG6 c1 f1 hwr hs63
      generalize W6.setCell ⟨tb, q.r, none⟩ (.int .i64 ((s : Int) + 1)) = W7 at HB7 HP7 HT7 HG7 ⊢
      obtain ⟨sg, hsg⟩ := own_addr HS.out (by have := HQK.out.1; omega)
      subst hsg
      have HFQ := Lib.hid (fun W' h => HF.out W' h q.d q.r HQK.out.1 HQK.out.2.1)
      have LD := Lib.hid (fun W' (h : Below W0.heap.size W0 W') => load_sd (ow_none HS.out (gb_below h)) HSL.out HQK.out.1)
      have LR := Lib.hid (fun W' (h : Below W0.heap.size W0 W') => load_sd (ow_none HS.out (gb_below h)) HSL.out HQK.out.2.1)
      rw [HQK.out.2.2.2] at HFQ
      generalize sideC (sl.getD q.d (0, nt0)).1 (sl.getD q.d (0, nt0)).2 = SD at HFQ LD
      generalize sideC (sl.getD q.r (0, nt0)).1 (sl.getD q.r (0, nt0)).2 = SR at HFQ LR
      go_upto_region 24 with fail
      have HB8 : Hid (Below W0.heap.size W0 W7.drew) := Lib.hid (bl_drew HB7.out)
      have HP8 := Lib.hid (ow_none HP7.out (gb_below (bl_drew (bl_refl W7))))
      have HT8 := Lib.hid (ow_none HT7.out (gb_below (bl_drew (bl_refl W7))))
      have HG8 : Hid (W7.drew.heap[N]? = some (.cells #[.int .i64 (q.d : Int), .int .i64 (q.r : Int), .int .i64 q.a] 76 (0, 0))) := Lib.hid HG7.out
      clear HB7 HP7 HT7 HG7
      refine wp_region_heldE (S := fun W1 => W1.heap[N]? = some (.cells #[.int .i64 (q.d : Int), .int .i64 (q.r : Int), .int .i64 q.a] 76 (0, 0)) ∧ Below W0.heap.size W0 W1) (ds := []) (by kernel_rfl) (⟨HG8.out, HB8.out⟩) (fun hHeld => ?_)
      refine wpAnyE_take (i := 0) (oi := ({ dst := some 164, op := Op.move (Operand.tmp 3), type := 43, pos := "outright.go:118", after := #[], guard := none } : Oper)) (v := ?_) rfl (by kernel_rfl) (by kernel_rfl) (by kernel_rfl) (by kernel_rfl) (fun _ _ _ h => h) (Or.inl ⟨by rfl, ?_⟩) hHeld ?_
      rotate_left
      · intro w' hSw; (try dsimp only at hSw); go_simp <;> with_reducible rfl
      try simp only [Act.put, List.setIfInBounds_toArray, List.set_cons_zero, List.set_cons_succ]
      refine wpAnyE_take (i := 1) (oi := ({ dst := some 165, op := Op.fieldAddr 76 (Operand.tmp 19) 0, type := 0, pos := "outright.go:118", after := #[], guard := none } : Oper)) (v := ?_) rfl (by kernel_rfl) (by kernel_rfl) (by kernel_rfl) (by kernel_rfl) (fun _ _ _ h => h) (Or.inl ⟨by rfl, ?_⟩) hHeld ?_
      rotate_left
      · intro w' hSw; (try dsimp only at hSw); go_simp <;> with_reducible rfl
      try simp only [Act.put, List.setIfInBounds_toArray, List.set_cons_zero, List.set_cons_succ]
      refine wpAnyE_take (i := 2) (oi := ({ dst := some 166, op := Op.load 3 (Operand.tmp 165), type := 3, pos := "outright.go:118", after := #[{ on := 1, ground := Ground.data }], guard := none } : Oper)) (v := ?_) rfl (by kernel_rfl) (by kernel_rfl) (by kernel_rfl) (by kernel_rfl) (fun _ _ _ h => h) (Or.inl ⟨by rfl, ?_⟩) hHeld ?_
      rotate_left
      · intro w' hSw; (try dsimp only at hSw); have hcf := cell_of_row w' N 0 _ _ _ hSw.1; go_simp <;> with_reducible rfl
      try simp only [Act.put, List.setIfInBounds_toArray, List.set_cons_zero, List.set_cons_succ]
      refine wpAnyE_take (i := 3) (oi := ({ dst := some 167, op := Op.indexAddr 43 (Operand.tmp 164) (Operand.tmp 166), type := 0, pos := "outright.go:118", after := #[{ on := 0, ground := Ground.data }, { on := 2, ground := Ground.data }], guard := none } : Oper)) (v := ?_) rfl (by kernel_rfl) (by kernel_rfl) (by kernel_rfl) (by kernel_rfl) (fun _ _ _ h => h) (Or.inl ⟨by rfl, ?_⟩) hHeld ?_
      rotate_left
      · intro w' hSw; (try dsimp only at hSw); go_simp <;> with_reducible rfl
      try simp only [Act.put, List.setIfInBounds_toArray, List.set_cons_zero, List.set_cons_succ]
      refine wpAnyE_take (i := 4) (oi := ({ dst := some 168, op := Op.load 28 (Operand.tmp 167), type := 28, pos := "outright.go:118", after := #[{ on := 3, ground := Ground.data }], guard := none } : Oper)) (v := .agg SD) rfl (by kernel_rfl) (by kernel_rfl) (by kernel_rfl) (by kernel_rfl) (fun _ _ _ h => h) (yieldsIf_load_known (by rfl) 28 (Operand.tmp 167) rfl ⟨sg, q.d * 28, none⟩ (.agg SD) rfl (fun w' h => LD.out w' h.2)) hHeld ?_
      try simp only [Act.put, List.setIfInBounds_toArray, List.set_cons_zero, List.set_cons_succ]
      refine wpAnyE_take (i := 5) (oi := ({ dst := some 169, op := Op.move (Operand.tmp 3), type := 43, pos := "outright.go:118", after := #[], guard := none } : Oper)) (v := ?_) rfl (by kernel_rfl) (by kernel_rfl) (by kernel_rfl) (by kernel_rfl) (fun _ _ _ h => h) (Or.inl ⟨by rfl, ?_⟩) hHeld ?_
      rotate_left
      · intro w' hSw; (try dsimp only at hSw); go_simp <;> with_reducible rfl
      try simp only [Act.put, List.setIfInBounds_toArray, List.set_cons_zero, List.set_cons_succ]
      refine wpAnyE_take (i := 6) (oi := ({ dst := some 170, op := Op.fieldAddr 76 (Operand.tmp 19) 1, type := 0, pos := "outright.go:118", after := #[], guard := none } : Oper)) (v := ?_) rfl (by kernel_rfl) (by kernel_rfl) (by kernel_rfl) (by kernel_rfl) (fun _ _ _ h => h) (Or.inl ⟨by rfl, ?_⟩) hHeld ?_
      rotate_left
      · intro w' hSw; (try dsimp only at hSw); go_simp <;> with_reducible rfl
      try simp only [Act.put, List.setIfInBounds_toArray, List.set_cons_zero, List.set_cons_succ]
      refine wpAnyE_take (i := 7) (oi := ({ dst := some 171, op := Op.load 3 (Operand.tmp 170), type := 3, pos := "outright.go:118", after := #[{ on := 6, ground := Ground.data }], guard := none } : Oper)) (v := ?_) rfl (by kernel_rfl) (by kernel_rfl) (by kernel_rfl) (by kernel_rfl) (fun _ _ _ h => h) (Or.inl ⟨by rfl, ?_⟩) hHeld ?_
      rotate_left
      · intro w' hSw; (try dsimp only at hSw); have hcf := cell_of_row w' N 1 _ _ _ hSw.1; go_simp <;> with_reducible rfl
      try simp only [Act.put, List.setIfInBounds_toArray, List.set_cons_zero, List.set_cons_succ]
      refine wpAnyE_take (i := 8) (oi := ({ dst := some 172, op := Op.indexAddr 43 (Operand.tmp 169) (Operand.tmp 171), type := 0, pos := "outright.go:118", after := #[{ on := 5, ground := Ground.data }, { on := 7, ground := Ground.data }], guard := none } : Oper)) (v := ?_) rfl (by kernel_rfl) (by kernel_rfl) (by kernel_rfl) (by kernel_rfl) (fun _ _ _ h => h) (Or.inl ⟨by rfl, ?_⟩) hHeld ?_
      rotate_left
      · intro w' hSw; (try dsimp only at hSw); go_simp <;> with_reducible rfl
      try simp only [Act.put, List.setIfInBounds_toArray, List.set_cons_zero, List.set_cons_succ]
      refine wpAnyE_take (i := 9) (oi := ({ dst := some 173, op := Op.load 28 (Operand.tmp 172), type := 28, pos := "outright.go:118", after := #[{ on := 8, ground := Ground.data }], guard := none } : Oper)) (v := .agg SR) rfl (by kernel_rfl) (by kernel_rfl) (by kernel_rfl) (by kernel_rfl) (fun _ _ _ h => h) (yieldsIf_load_known (by rfl) 28 (Operand.tmp 172) rfl ⟨sg, q.r * 28, none⟩ (.agg SR) rfl (fun w' h => LR.out w' h.2)) hHeld ?_
      try simp only [Act.put, List.setIfInBounds_toArray, List.set_cons_zero, List.set_cons_succ]
      refine wpAnyE_take (i := 10) (oi := ({ dst := some 174, op := Op.move (Operand.tmp 1), type := 29, pos := "outright.go:118", after := #[], guard := none } : Oper)) (v := ?_) rfl (by kernel_rfl) (by kernel_rfl) (by kernel_rfl) (by kernel_rfl) (fun _ _ _ h => h) (Or.inl ⟨by rfl, ?_⟩) hHeld ?_
      rotate_left
      · intro w' hSw; (try dsimp only at hSw); go_simp <;> with_reducible rfl
      try simp only [Act.put, List.setIfInBounds_toArray, List.set_cons_zero, List.set_cons_succ]
      refine wpAnyE_take (i := 11) (oi := ({ dst := some 175, op := Op.move (Operand.tmp 2), type := 2, pos := "outright.go:118", after := #[], guard := none } : Oper)) (v := ?_) rfl (by kernel_rfl) (by kernel_rfl) (by kernel_rfl) (by kernel_rfl) (fun _ _ _ h => h) (Or.inl ⟨by rfl, ?_⟩) hHeld ?_
      rotate_left
      · intro w' hSw; (try dsimp only at hSw); go_simp <;> with_reducible rfl
      try simp only [Act.put, List.setIfInBounds_toArray, List.set_cons_zero, List.set_cons_succ]
      refine wpAnyE_ready (rs := [12]) (by kernel_rfl) (by simp) ?_
      refine AllReadyE.cons (o := ({ dst := some 176, op := Op.call { callee := Callee.value (Operand.func 7), args := #[Operand.tmp 168, Operand.tmp 173, Operand.tmp 174, Operand.tmp 175], argTypes := #[28, 28, 29, 2] }, type := 30, pos := "outright.go:118", after := #[{ on := 4, ground := Ground.data }, { on := 9, ground := Ground.data }, { on := 10, ground := Ground.data }, { on := 11, ground := Ground.data }], guard := none } : Oper)) rfl (fun K hK => ?_) AllReadyE.nil
      go_simp
      go_at_call 7
      (with_reducible refine (HFQ.out _ hHeld.2).mono ?_)
      rintro e W9 ⟨rfl, hb9⟩
      have HB9 := Lib.hid (bl_then HB8.out hb9)
      have HP9 := Lib.hid (ow_none HP8.out (gb_below hb9))
      have HT9 := Lib.hid (ow_none HT8.out (gb_below hb9))
      have HG9 := Lib.hid (blk_none HG8.out (gb_below hb9))
      clear HB8 HP8 HT8 HG8
      have hHeld2 : (show World → Prop from fun W1 => W1.heap[N]? = some (.cells #[.int .i64 (q.d : Int), .int .i64 (q.r : Int), .int .i64 q.a] 76 (0, 0)) ∧ Below W0.heap.size W0 W1) _ := ⟨HG9.out, HB9.out⟩
      refine hK.out _ _ (Or.inr hHeld2) (fun _ => ?_)
      clear hK K hHeld
      try clear hb
      have hHeld := hHeld2
      clear hHeld2
      try simp only [Act.put, List.setIfInBounds_toArray, List.set_cons_zero, List.set_cons_succ]
      refine wpAnyE_take (i := 13) (oi := ({ dst := some 163, op := Op.move (Operand.tmp 176), type := 30, pos := "outright.go:118", after := #[{ on := 12, ground := Ground.data }], guard := none } : Oper)) (v := ?_) rfl (by kernel_rfl) (by kernel_rfl) (by kernel_rfl) (by kernel_rfl) (fun _ _ _ h => h) (Or.inl ⟨by rfl, ?_⟩) hHeld ?_
      rotate_left
      · intro w' hSw; (try dsimp only at hSw); go_simp <;> with_reducible rfl
      try simp only [Act.put, List.setIfInBounds_toArray, List.set_cons_zero, List.set_cons_succ]
      refine wpAnyE_take (i := 14) (oi := ({ dst := some 177, op := Op.extract (Operand.tmp 163) 0, type := 2, pos := "outright.go:118", after := #[{ on := 13, ground := Ground.data }], guard := none } : Oper)) (v := ?_) rfl (by kernel_rfl) (by kernel_rfl) (by kernel_rfl) (by kernel_rfl) (fun _ _ _ h => h) (Or.inl ⟨by rfl, ?_⟩) hHeld ?_
      rotate_left
      · intro w' hSw; (try dsimp only at hSw); go_simp <;> with_reducible rfl
      try simp only [Act.put, List.setIfInBounds_toArray, List.set_cons_zero, List.set_cons_succ]
      refine wpAnyE_take (i := 15) (oi := ({ dst := some 178, op := Op.extract (Operand.tmp 163) 1, type := 4, pos := "outright.go:118", after := #[{ on := 13, ground := Ground.data }, { on := 16, ground := Ground.gcOnly Departure.lateStores }], guard := none } : Oper)) (v := ?_) rfl (by kernel_rfl) (by kernel_rfl) (by kernel_rfl) (by kernel_rfl) (fun _ _ _ h => h) (Or.inl ⟨by rfl, ?_⟩) hHeld ?_
      rotate_left
      · intro w' hSw; (try dsimp only at hSw); go_simp <;> with_reducible rfl
      try simp only [Act.put, List.setIfInBounds_toArray, List.set_cons_zero, List.set_cons_succ]
      refine wpAnyE_take (i := 16) (oi := ({ dst := some 20, op := Op.assign (Operand.tmp 177), type := 2, pos := "outright.go:118", after := #[{ on := 14, ground := Ground.data }, { on := 12, ground := Ground.chain }, { on := 0, ground := Ground.phase }, { on := 1, ground := Ground.phase }, { on := 2, ground := Ground.phase }, { on := 3, ground := Ground.phase }, { on := 4, ground := Ground.phase }, { on := 5, ground := Ground.phase }, { on := 6, ground := Ground.phase }, { on := 7, ground := Ground.phase }, { on := 8, ground := Ground.phase }, { on := 9, ground := Ground.phase }, { on := 10, ground := Ground.phase }, { on := 11, ground := Ground.phase }, { on := 12, ground := Ground.phase }, { on := 13, ground := Ground.phase }, { on := 14, ground := Ground.phase }, { on := 15, ground := Ground.textOnly Departure.lateStores }], guard := none } : Oper)) (v := ?_) rfl (by kernel_rfl) (by kernel_rfl) (by kernel_rfl) (by kernel_rfl) (fun _ _ _ h => h) (Or.inl ⟨by rfl, ?_⟩) hHeld ?_
      rotate_left
      · intro w' hSw; (try dsimp only at hSw); go_simp <;> with_reducible rfl
      try simp only [Act.put, List.setIfInBounds_toArray, List.set_cons_zero, List.set_cons_succ]
      refine wpAnyE_take (i := 17) (oi := ({ dst := some 21, op := Op.assign (Operand.tmp 178), type := 4, pos := "outright.go:118", after := #[{ on := 15, ground := Ground.data }, { on := 16, ground := Ground.chain }, { on := 0, ground := Ground.phase }, { on := 1, ground := Ground.phase }, { on := 2, ground := Ground.phase }, { on := 3, ground := Ground.phase }, { on := 4, ground := Ground.phase }, { on := 5, ground := Ground.phase }, { on := 6, ground := Ground.phase }, { on := 7, ground := Ground.phase }, { on := 8, ground := Ground.phase }, { on := 9, ground := Ground.phase }, { on := 10, ground := Ground.phase }, { on := 11, ground := Ground.phase }, { on := 12, ground := Ground.phase }, { on := 13, ground := Ground.phase }, { on := 14, ground := Ground.phase }, { on := 15, ground := Ground.phase }, { on := 16, ground := Ground.phase }], guard := none } : Oper)) (v := ?_) rfl (by kernel_rfl) (by kernel_rfl) (by kernel_rfl) (by kernel_rfl) (fun _ _ _ h => h) (Or.inl ⟨by rfl, ?_⟩) hHeld ?_
      rotate_left
      · intro w' hSw; (try dsimp only at hSw); go_simp <;> with_reducible rfl
      try simp only [Act.put, List.setIfInBounds_toArray, List.set_cons_zero, List.set_cons_succ]
      refine wpAnyE_done (by kernel_rfl) ?_ _
      have e2 : W9.cell? ⟨N, 2, none⟩ = some (.int .i64 q.a) := cell_of_row W9 N 2 _ _ _ HG9.out
      have y1 : (q.a != q.a) = false := by simp
      clear hHeld hdI hrI
      go_wp2
      go_roundg (Q.length - (k + 1))
      case measure => omega
      case rel => exact ⟨k + 1, by go_num, by omega, by omega, HB9, HP9, HT9⟩
    · have e0 : k = Q.length := by omega
      subst e0
      have HTF : Hid (wr.ownsRow 0 3 1 (.slice (some ⟨tb, 0, none⟩) n n) n (times n fun k => if gl k then 0 else 1)) := Lib.hid (by
        have h1 := HTR.out
        rw [List.take_length, times_congr (fun i hi => HC.out i hi)] at h1
        exact h1)
      clear HTR
      go_upto_if 114 with fail
      refine wp_cond_false rfl (wp_exit ?_)
      refine hK27 _ _ ?_
      exact rests27 _ _ _ _ _ _ _ _ _ _ _ _ _ _ _ _ _ _ _ _ _ _ _ _ _ _ _ _ _ _ _ _ _ _ _ _ _ _ _ _ _ _ _ _ _ _ _ _ _ _ _ _ _ _ _ _ _ _ _ _ _ _ _ _ _ _ _ _ _ _ _ _ _ _ _ _ _ _ _ _ _ _ _ _ _ _ _ _ _ _ _ _ _ _ _ _ _ _ _ _ _ _ _ _ _ _ _ _ _ _ _ _ _ _ _ _ _ _ _ _ _ _ _ _ _ _ _ _ _ _ _ _ _ _ _ _ _ _ _ _ _ _ _ _ _ _ _ _ _ _ _ _ _ _ _ _ _ _ _ _ _ _ _ _ _ _ _ _ _ _ _ _ _ _ _ _ _ _ _ _ _ _ _ _ _ _ _ _ _ _ _ _ _ _ _ _ _ _ _ _ _ _ _ _ _ _ _ _ _ _ _ _ _ _ _ (ow_none HG.out (gb_below HB.out)) HTF.out HN.out (HPO.out _ HB.out)
end Go.Proofs.YtphabkaiheplpaaGreatDoor
