/- match.Fit and the document's Fit, by contracts. -/
import Derived.Test.YtccnfklemalmeaaDoorHas
import Derived.DeepKeys
set_option linter.unusedVariables false
set_option linter.unusedSimpArgs false
set_option maxRecDepth 100000
namespace Go.Proofs.YtccnfklemalmeaaDoor
open Go.RowKit Go.Shelf

def BicF (s : ByteArray) (w : World) (e : Ending) (w' : World) : Prop := ∃ n a : Int, e = .returned (.tuple #[.agg #[.string (bicP s 0), .string (bicP s 1), .string (bicP s 2), .string (bicP s 3)], .int .i64 n, .int .i64 a]) ∧ (n == 0) = bicOK s ∧ Below w.heap.size w w'
theorem refBic_four (s : ByteArray) (hs : s.size ≤ 140737488351232) (w : World) : Calls Tryd.prog 112 #[.string s] w (BicF s w) := refBic_any s hs w
theorem eql_lits {t : TypeId} {D m : Nat} {xs ys : Array Value} {la lb : List Lit} (hm : m ≤ 9999) (hk : Tryd.prog.keyTypeAt m t = true) (fx : (Value.agg xs).formed Tryd.prog t = true) (fy : (Value.agg ys).formed Tryd.prog t = true)
    (hx : Tryd.prog.keyLits D t xs.toList = some la) (hy : Tryd.prog.keyLits D t ys.toList = some lb) {r : Bool} (hr : r = true ↔ la = lb) (w : World) : (binOp .eql t (.agg xs) (.agg ys)).run Tryd.prog w = .ok (.bool r) w := by
  obtain ⟨q, hq, hiff⟩ := run_equalIn_deep (P := Tryd.prog) (10000 - m) m t hk w D D (.agg xs) (.agg ys) la lb fx fy hx hy
  rw [show 10000 - m + m = 10000 by omega] at hq
  have e : q = r := Bool.eq_iff_iff.2 (hiff.trans hr.symm)
  subst e
  simp only [run_eql_struct, hq, Result.andThen]
theorem neq_lits {t : TypeId} {D m : Nat} {xs ys : Array Value} {la lb : List Lit} (hm : m ≤ 9999) (hk : Tryd.prog.keyTypeAt m t = true) (fx : (Value.agg xs).formed Tryd.prog t = true) (fy : (Value.agg ys).formed Tryd.prog t = true)
    (hx : Tryd.prog.keyLits D t xs.toList = some la) (hy : Tryd.prog.keyLits D t ys.toList = some lb) {r : Bool} (hr : r = true ↔ la = lb) (w : World) : (binOp .neq t (.agg xs) (.agg ys)).run Tryd.prog w = .ok (.bool (!r)) w := by
  obtain ⟨q, hq, hiff⟩ := run_equalIn_deep (P := Tryd.prog) (10000 - m) m t hk w D D (.agg xs) (.agg ys) la lb fx fy hx hy
  rw [show 10000 - m + m = 10000 by omega] at hq
  have e : q = r := Bool.eq_iff_iff.2 (hiff.trans hr.symm)
  subst e
  simp only [run_neq_struct, hq, Result.andThen]
theorem arr4_key : Tryd.prog.keyTypeAt 3 107 = true := by kernel_rfl
theorem arr4_lits (a b c d : ByteArray) (ha : a.size ≤ maxLen) (hb : b.size ≤ maxLen) (hc : c.size ≤ maxLen) (hd : d.size ≤ maxLen) :
    Tryd.prog.keyLits 3 107 [.string a, .string b, .string c, .string d] = some [.string a.data.toList, .string b.data.toList, .string c.data.toList, .string d.data.toList] := by
  have u1 := Tryd.underlying107
  have u2 := Tryd.underlying9
  have c1 : Tryd.prog.cellsOf 107 = 4 := by kernel_rfl
  have c2 : Tryd.prog.cellsOf 9 = 1 := by kernel_rfl
  simp [Program.keyLits, u1, u2, c1, c2, ha, hb, hc, hd, List.range, List.range.loop]
theorem arr4_formed (a b c d : Value) : (Value.agg #[a, b, c, d]).formed Tryd.prog 107 = true := by kernel_rfl
theorem ba_list {a b : ByteArray} : a.data.toList = b.data.toList ↔ a = b := by
  constructor
  · intro h
    exact ByteArray.ext (Array.toList_inj.1 h)
  · intro h
    rw [h]
theorem ba_data {a b : ByteArray} : a.data = b.data ↔ a = b := ⟨ByteArray.ext, fun h => by rw [h]⟩
theorem extract_le (s : ByteArray) (i j : Nat) : (s.extract i j).size ≤ s.size := by
  rw [ByteArray.size_extract]
  omega
theorem bicP_le (s : ByteArray) (k : Nat) (hs : s.size ≤ 140737488351232) : (bicP s k).size ≤ maxLen := by
  have h0 : (⟨#[]⟩ : ByteArray).size = 0 := rfl
  have e1 := extract_le s 0 4
  have e2 := extract_le s 4 6
  have e3 := extract_le s 6 8
  have e4 := extract_le s 8 s.size
  unfold maxLen bicP branch
  split
  · split
    · omega
    · split
      · omega
      · split
        · omega
        · split
          · omega
          · omega
  · omega
/-- The same four parts. -/
def sameP (a b : ByteArray) : Bool := decide (bicP a 0 = bicP b 0 ∧ bicP a 1 = bicP b 1 ∧ bicP a 2 = bicP b 2 ∧ bicP a 3 = bicP b 3)
theorem bic_eql (a b : ByteArray) (ha : a.size ≤ 140737488351232) (hb : b.size ≤ 140737488351232) (w : World) :
    (binOp .eql 107 (.agg #[.string (bicP a 0), .string (bicP a 1), .string (bicP a 2), .string (bicP a 3)]) (.agg #[.string (bicP b 0), .string (bicP b 1), .string (bicP b 2), .string (bicP b 3)])).run Tryd.prog w = .ok (.bool (sameP a b)) w :=
  eql_lits (m := 3) (by decide) arr4_key (arr4_formed _ _ _ _) (arr4_formed _ _ _ _) (arr4_lits _ _ _ _ (bicP_le a 0 ha) (bicP_le a 1 ha) (bicP_le a 2 ha) (bicP_le a 3 ha)) (arr4_lits _ _ _ _ (bicP_le b 0 hb) (bicP_le b 1 hb) (bicP_le b 2 hb) (bicP_le b 3 hb)) (by simp [sameP, ba_data]) w
def sameBic (a b : ByteArray) : Bool := bicOK a && bicOK b && sameP a b
theorem sameBic_any (a b : ByteArray) (ha : a.size ≤ 140737488351232) (hb : b.size ≤ 140737488351232) (w : World) :
    Calls Tryd.prog 84 #[.string a, .string b] w fun e w' => e = .returned (.bool (sameBic a b)) ∧ Below w.heap.size w w' := by
  have H1 := Lib.hid (fun w => refBic_four a ha w)
  have H2 := Lib.hid (fun w => refBic_four b hb w)
  have heq := fun w => bic_eql a b ha hb w
  go_enter Tryd.func84, Tryd.ntmps84
  go_wp2_with (first | (go_at_call 112; refine (H1.out _).mono ?_; rintro e w1 ⟨n, x, rfl, hn, hb1⟩; have HN := Lib.hid hn; clear hn H1) | (go_at_call 112; refine (H2.out _).mono ?_; rintro e w2 ⟨m, y, rfl, hm, hb2⟩; have HM := Lib.hid hm; clear hm; have c0 := bl_cell (a := ⟨w1.heap.size, 0, none⟩) (v := .string (bicP a 0)) hb2 (by simp); have c1 := bl_cell (a := ⟨w1.heap.size, 1, none⟩) (v := .string (bicP a 1)) hb2 (by simp); have c2 := bl_cell (a := ⟨w1.heap.size, 2, none⟩) (v := .string (bicP a 2)) hb2 (by simp); have c3 := bl_cell (a := ⟨w1.heap.size, 3, none⟩) (v := .string (bicP a 3)) hb2 (by simp); have z := new_size hb2))
  all_goals go_ret
  all_goals refine ⟨ret_b ?_, bl_alloc (bl_then (bl_alloc hb1 _) hb2) _⟩
  all_goals unfold sameBic
  all_goals rw [← HN.out, ← HM.out]
  all_goals simp [*]
def I64 (a : Int) : Prop := -9223372036854775808 ≤ a ∧ a ≤ 9223372036854775807
def nearB (a b y : Int) : Bool := decide (0 ≤ y) && (if a < b then decide (b - a ≤ y) else decide (a - b ≤ y))
theorem u64_wrap (a : Int) : IntKind.u64.wrap a = a % 18446744073709551616 := rfl
theorem wrap_diff {a b : Int} (ha : I64 a) (hb : I64 b) (h : b ≤ a) : IntKind.u64.wrap (IntKind.u64.wrap a - IntKind.u64.wrap b) = a - b := by
  unfold I64 at ha hb
  simp only [u64_wrap]
  omega
theorem wrap_pos {a : Int} (ha : I64 a) (h : 0 ≤ a) : IntKind.u64.wrap a = a := by
  unfold I64 at ha
  simp only [u64_wrap]
  omega
theorem refNear_any (a b y : Int) (ha : I64 a) (hb : I64 b) (hy : I64 y) (w : World) :
    Calls Tryd.prog 55 #[.int .i64 a, .int .i64 b, .int .i64 y] w fun e w' => e = .returned (.bool (nearB a b y)) ∧ w = w' := by
  by_cases h0 : y < 0
  · go_enter Tryd.func55, Tryd.ntmps55
    go_wp2
    go_ret
    exact ⟨ret_b (by unfold nearB; simp; omega), rfl⟩
  · have e3 := wrap_pos hy (by omega)
    by_cases h : a < b
    · have e1 := wrap_diff hb ha (by omega)
      go_enter Tryd.func55, Tryd.ntmps55
      go_wp2
      go_ret
      exact ⟨ret_b (by unfold nearB; rw [if_pos h]; simp; omega), rfl⟩
    · have e1 := wrap_diff ha hb (by omega)
      go_enter Tryd.func55, Tryd.ntmps55
      go_wp2
      go_ret
      exact ⟨ret_b (by unfold nearB; rw [if_neg (by omega)]; simp; omega), rfl⟩
theorem near_any (a b y : Int) (ha : I64 a) (hb : I64 b) (hy : I64 y) (w : World) :
    Calls Tryd.prog 59 #[.int .i64 a, .int .i64 b, .int .i64 y] w fun e w' => e = .returned (.bool (nearB a b y)) ∧ w = w' := by
  by_cases h0 : y < 0
  · go_enter Tryd.func59, Tryd.ntmps59
    go_wp2
    go_ret
    exact ⟨ret_b (by unfold nearB; simp; omega), rfl⟩
  · have e3 := wrap_pos hy (by omega)
    by_cases h : a < b
    · have e1 := wrap_diff hb ha (by omega)
      have mx : max a b = b := by omega
      have mn : min a b = a := by omega
      go_enter Tryd.func59, Tryd.ntmps59
      go_wp2
      go_ret
      exact ⟨ret_b (by unfold nearB; rw [if_pos h]; simp; omega), rfl⟩
    · have e1 := wrap_diff ha hb (by omega)
      have mx : max a b = a := by omega
      have mn : min a b = b := by omega
      go_enter Tryd.func59, Tryd.ntmps59
      go_wp2
      go_ret
      exact ⟨ret_b (by unfold nearB; rw [if_neg (by omega)]; simp; omega), rfl⟩
/-- A slice of texts reads so. -/
def RdT (w : World) (A : Option Addr) (n : Nat) (zs : List ByteArray) : Prop := zs.length = n ∧ ∀ i, i < n → ∃ ad, A = some ad ∧ w.cell? (ad.add i) = some (.string (zs.getD i ⟨#[]⟩))
theorem RdT.at_ {w : World} {A : Option Addr} {n : Nat} {zs : List ByteArray} (h : RdT w A n zs) {i : Nat} (h1 : i < n) : ∃ ad, A = some ad ∧ w.cell? (ad.add i) = some (.string (zs.getD i ⟨#[]⟩)) := h.2 i h1
theorem RdT.below {w w1 : World} {A : Option Addr} {n : Nat} {zs : List ByteArray} (h : RdT w A n zs) (hb : Below w.heap.size w w1) : RdT w1 A n zs :=
  ⟨h.1, fun i hi => by obtain ⟨ad, e, hc⟩ := h.2 i hi; exact ⟨ad, e, bl_cell hb hc⟩⟩
/-- No text is longer than the reach. -/
def Short (zs : List ByteArray) : Prop := ∀ i, (zs.getD i ⟨#[]⟩).size ≤ 140737488351232
def isB (zs : List ByteArray) (p : Int) (b : ByteArray) : Bool := decide (0 ≤ p) && (decide (p < zs.length) && sameBic (zs.getD p.toNat ⟨#[]⟩) b)
theorem is22_any (A : Option Addr) (n c : Nat) (zs : List ByteArray) (p : Int) (b : ByteArray) (w : World) (hr : RdT w A n zs) (hsh : Short zs) (hb : b.size ≤ 140737488351232) (hn : n ≤ 140737488351232) :
    Calls Tryd.prog 54 #[.slice A n c, .int .i64 p, .string b] w fun e w' => e = .returned (.bool (isB zs p b)) ∧ Below w.heap.size w w' := by
  have hl := hr.1
  by_cases h0 : 0 ≤ p
  · by_cases h1 : p < n
    · obtain ⟨k, rfl⟩ : ∃ k : Nat, p = k := ⟨p.toNat, by omega⟩
      have hk : k < n := by omega
      obtain ⟨ad, rfl, hcell⟩ := hr.at_ hk
      have hsame := fun w => sameBic_any (zs.getD k ⟨#[]⟩) b (hsh k) hb w
      have hres : isB zs k b = sameBic (zs.getD k ⟨#[]⟩) b := by unfold isB; simp; intro; omega
      generalize zs.getD k ⟨#[]⟩ = z at hcell hsame hres
      have HR := Lib.hid hres
      clear hres
      go_enter Tryd.func54, Tryd.ntmps54
      go_wp2_with (go_at_call 84; refine (hsame _).mono ?_; rintro e w1 ⟨rfl, hb1⟩)
      go_ret
      exact ⟨ret_b HR.out.symm, hb1⟩
    · go_enter Tryd.func54, Tryd.ntmps54
      go_wp2
      go_ret
      exact ⟨ret_b (by unfold isB; simp; intros; omega), bl_refl w⟩
  · go_enter Tryd.func54, Tryd.ntmps54
    go_wp2
    go_ret
    exact ⟨ret_b (by unfold isB; simp; intros; omega), bl_refl w⟩
end Go.Proofs.YtccnfklemalmeaaDoor
