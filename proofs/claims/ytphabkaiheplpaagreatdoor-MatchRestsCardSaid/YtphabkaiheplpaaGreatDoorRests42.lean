/- Joined texts of this proof: RsW. -/
import Derived.Outline
import Derived.BigQuiet
import Derived.Deep.LoopGhost
import Derived.Test.YtphabkaiheplpaaGreatDoorRests41
/- custodylaw22.rests, its end: each side's count. -/
set_option linter.unusedVariables false
set_option linter.unusedSimpArgs false
set_option maxRecDepth 100000
namespace Go.Proofs.YtphabkaiheplpaaGreatDoor
open Go.RowKit Go.Shelf Go.Maps

def sdC (s : Int × Nt) : List Value := (sideC s.1 s.2).toList
theorem sdC_length (s : Int × Nt) : (sdC s).length = 28 := rfl
def times (n : Nat) (f : Nat → Nat) : List Value := (List.range n).map fun i => .int .i64 (f i : Int)
def flags (n : Nat) (g : Nat → Bool) : List Value := (List.range n).map fun i => .bool (g i)
theorem times_at {n : Nat} (f : Nat → Nat) {k : Nat} (h : k < n) : (times n f)[k]? = some (.int .i64 (f k : Int)) := by
  unfold times; rw [List.getElem?_map, List.getElem?_range h]; rfl
theorem flags_at {n : Nat} (g : Nat → Bool) {k : Nat} (h : k < n) : (flags n g)[k]? = some (.bool (g k)) := by
  unfold flags; rw [List.getElem?_map, List.getElem?_range h]; rfl
theorem times_length (n : Nat) (f : Nat → Nat) : (times n f).length = n := by simp [times]
theorem times_set {n x : Nat} (f : Nat → Nat) (v : Nat) (h : x < n) : (times n f).set x (.int .i64 (v : Int)) = times n (fun i => if i = x then v else f i) := by
  apply List.ext_getElem?
  intro j
  by_cases hj : j < n
  · rw [times_at _ hj]
    by_cases e : x = j
    · subst e
      rw [List.getElem?_set_self (by rw [times_length]; exact hj), if_pos rfl]
    · rw [List.getElem?_set_ne e, times_at _ hj, if_neg (Ne.symm e)]
  · rw [List.getElem?_eq_none (by rw [List.length_set, times_length]; omega), List.getElem?_eq_none (by rw [times_length]; omega)]
theorem times_congr {n : Nat} {f g : Nat → Nat} (h : ∀ i, i < n → f i = g i) : times n f = times n g := by
  unfold times
  apply List.map_congr_left
  intro i hi
  rw [h i (List.mem_range.1 hi)]
theorem sides_at {sl : List (Int × Nt)} : ∀ (k j : Nat), k < sl.length → j < 28 → (sl.flatMap sdC)[k * 28 + j]? = (sdC (sl.getD k (0, nt0)))[j]? := by
  induction sl with
  | nil => intro k j h; cases h
  | cons e r ih =>
    intro k j h hj
    cases k with
    | zero =>
      rw [List.flatMap_cons, List.getElem?_append_left (by rw [sdC_length]; omega), Nat.zero_mul, Nat.zero_add]
      rfl
    | succ k =>
      rw [List.flatMap_cons, List.getElem?_append_right (by rw [sdC_length]; omega), sdC_length, show (k + 1) * 28 + j - 28 = k * 28 + j by omega, ih k j (by simpa using h) hj]
      rfl
/-- One side out of a row of sides. -/
theorem load_sd {W : World} {base sg n sc : Nat} {sl : List (Int × Nt)} (h : W.ownsRow base 28 28 (.slice (some ⟨sg, 0, none⟩) n sc) n (sl.flatMap sdC)) (hn : sl.length = n) {k : Nat} (hk : k < n) :
    (loadVar 28 ⟨sg, k * 28, none⟩).run Tryz.prog W = .ok (.agg (sideC (sl.getD k (0, nt0)).1 (sl.getD k (0, nt0)).2)) W := by
  have hdesc := side_desc
  cases hu : Tryz.prog.underlying 28 with
  | none => rw [hu] at hdesc; cases hdesc
  | some dd =>
    rw [hu] at hdesc
    have hp := loadVar_part Tryz.prog W sg (k * 28) 28 (sideC (sl.getD k (0, nt0)).1 (sl.getD k (0, nt0)).2).toList dd hu (by cases dd <;> simp_all) (by rw [side_size]; rfl) (fun j v hv => by
      have hj : j < 28 := (List.getElem?_eq_some_iff.1 hv).1
      rw [h.cellAt (k * 28 + j) (by omega), sides_at k j (by omega) hj]
      exact hv)
    simpa using hp
theorem ow_set2 {w : World} {base n : Nat} {e : TypeId} {size : Nat} {v : Value} {xs : List Value} (h : w.ownsRow base e size v n xs) (a : Addr) (u : Value) (hb : a.block < base) : (w.setCell a u).ownsRow base e size v n xs := by
  refine h.kept (row := some a.block) (gb_cell w a u) ?_
  by_cases hv : v.ownBlock = none
  · left; exact hv
  · right
    intro hc
    have := ow_base h _ hc
    omega
noncomputable def restsR (n : Nat) : Code := ((Tryz.f15.body.bind (fromR n)).getD .skip)
set_option maxHeartbeats 8000000 in
set_option maxRecDepth 1000000 in
theorem rests27 {W : World} {S G : Option Addr} {n cs cg tb : Nat} {gl : Nat → Bool} (u0 u1 u2 u5 u6 u7 u8 u9 u10 u12 u13 u14 u15 u16 u17 u18 u19 u20 u21 u22 u23 u24 u25 u26 u27 u28 u29 u30 u31 u32 u33 u34 u35 u36 u37 u38 u39 u40 u41 u42 u43 u44 u45 u46 u47 u48 u49 u50 u51 u52 u53 u54 u55 u56 u57 u58 u59 u60 u61 u62 u63 u64 u65 u66 u67 u68 u69 u70 u71 u72 u73 u74 u75 u76 u77 u78 u79 u80 u81 u82 u83 u84 u85 u86 u87 u88 u89 u90 u91 u92 u93 u94 u95 u96 u97 u98 u99 u100 u101 u102 u103 u104 u105 u106 u107 u108 u109 u110 u111 u112 u113 u114 u115 u116 u117 u118 u119 u120 u121 u122 u123 u124 u125 u126 u127 u128 u129 u130 u131 u132 u133 u134 u135 u136 u137 u138 u139 u140 u141 u142 u143 u144 u145 u146 u147 u148 u149 u150 u151 u152 u153 u154 u155 u156 u157 u158 u159 u160 u161 u162 u163 u164 u165 u166 u167 u168 u169 u170 u171 u172 u173 u174 u175 u176 u177 u178 u179 u180 u181 u182 u183 u184 u185 u186 u187 u188 u189 u190 u191 u192 u193 u194 u195 u196 u197 u198 u199 u200 u201 u202 u203 u204 u205 u206 u207 u208 u209 u210 u211 u212 u213 u214 u215 u216 u217 : Value) {Φ : Ending → World → Prop}
    (hg : W.ownsRow 0 4 1 (.slice G n cg) n (flags n gl)) (ht : W.ownsRow 0 3 1 (.slice (some ⟨tb, 0, none⟩) n n) n (times n fun k => if gl k then 0 else 1)) (hn : n ≤ 1000000000000)
    (post : Φ (.returned (.bool true)) W) :
    Code.wp Tryz.prog (restsR 27) (bodyPost Tryz.prog Tryz.f15 Φ) ⟨#[u0, u1, u2, .slice S n cs, .slice G n cg, u5, u6, u7, u8, u9, u10, .slice (some ⟨tb, 0, none⟩) n n, u12, u13, u14, u15, u16, u17, u18, u19, u20, u21, u22, u23, u24, u25, u26, u27, u28, u29, u30, u31, u32, u33, u34, u35, u36, u37, u38, u39, u40, u41, u42, u43, u44, u45, u46, u47, u48, u49, u50, u51, u52, u53, u54, u55, u56, u57, u58, u59, u60, u61, u62, u63, u64, u65, u66, u67, u68, u69, u70, u71, u72, u73, u74, u75, u76, u77, u78, u79, u80, u81, u82, u83, u84, u85, u86, u87, u88, u89, u90, u91, u92, u93, u94, u95, u96, u97, u98, u99, u100, u101, u102, u103, u104, u105, u106, u107, u108, u109, u110, u111, u112, u113, u114, u115, u116, u117, u118, u119, u120, u121, u122, u123, u124, u125, u126, u127, u128, u129, u130, u131, u132, u133, u134, u135, u136, u137, u138, u139, u140, u141, u142, u143, u144, u145, u146, u147, u148, u149, u150, u151, u152, u153, u154, u155, u156, u157, u158, u159, u160, u161, u162, u163, u164, u165, u166, u167, u168, u169, u170, u171, u172, u173, u174, u175, u176, u177, u178, u179, u180, u181, u182, u183, u184, u185, u186, u187, u188, u189, u190, u191, u192, u193, u194, u195, u196, u197, u198, u199, u200, u201, u202, u203, u204, u205, u206, u207, u208, u209, u210, u211, u212, u213, u214, u215, u216, u217], []⟩ W := by
  have HG := Lib.hid hg
  have HT := Lib.hid ht
  have HN := Lib.hid hn
  have HPO := Lib.hid post
  clear hg ht hn post
  conv => arg 2; whnf
  dsimp only
  go_wp2
  go_loopg [22] n (fun g v wr => ∃ (k : Nat), v = .int .i64 k ∧ k ≤ n ∧ n - k ≤ g ∧ wr = W)
  case atStart => exact ⟨0, rfl, by omega, by omega, rfl⟩
  case round =>
    obtain ⟨k, rfl, hk, hg, rfl⟩ := hrel
    by_cases hlt : k < n
    · have hltz : (k : Int) < (n : Int) := by omega
      obtain ⟨gg, rfl⟩ := own_addr HG.out (by omega)
      have cg1 : wr.cell? ⟨gg, k, none⟩ = some (.bool (gl k)) := by have := HG.out.cellAt k (by omega); rw [flags_at gl hlt] at this; exact this
      have ct1 : wr.cell? ⟨tb, k, none⟩ = some (.int .i64 ((if gl k then 0 else 1 : Nat) : Int)) := by have := HT.out.cellAt k (by omega); rw [times_at _ hlt] at this; exact this
      have hk63 : (k : Int) + 1 ≤ 2000000000000 := by have := HN.out; omega
      cases hgl : gl k with
      | true =>
        rw [hgl] at cg1 ct1
        have ct2 : wr.cell? ⟨tb, k, none⟩ = some (.int .i64 0) := ct1
        clear ct1
        go_wp2
        go_roundg (n - (k + 1))
        case measure => omega
        case rel => exact ⟨k + 1, by go_num, by omega, by omega, rfl⟩
      | false =>
        rw [hgl] at cg1 ct1
        have ct2 : wr.cell? ⟨tb, k, none⟩ = some (.int .i64 1) := ct1
        clear ct1
        go_wp2
        go_roundg (n - (k + 1))
        case measure => omega
        case rel => exact ⟨k + 1, by go_num, by omega, by omega, rfl⟩
    · have e0 : k = n := by omega
      subst e0
      go_wp2
      exact HPO.out
end Go.Proofs.YtphabkaiheplpaaGreatDoor
