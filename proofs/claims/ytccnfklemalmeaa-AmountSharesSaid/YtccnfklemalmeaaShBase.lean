/- Small words of the shares: an int64, what comes back with an error, the sum of a list. -/
import Derived.Test.YtccnfklemalmeaaGerr
import Derived.ProofKit
import Derived.OpenShut
import Derived.SizedLaws
import Derived.RowKit
import Derived.Lib.Hide
set_option linter.unusedVariables false
set_option linter.unusedSimpArgs false
set_option maxRecDepth 100000
namespace Go.Proofs.Ytccnfklemalmeaa
open Go.ChangeShapes Go.WideShapes Go.ChangeAt Go.RowKit

/-- An int64. -/
def I64 (a : Int) : Prop := -9223372036854775808 ≤ a ∧ a ≤ 9223372036854775807
theorem ok_i64 {a : Int} (h : (Lit.int .i64 a).wf = true) : I64 a := by
  have := bounds_i64 h
  unfold I64
  omega
/-- A slice of integers that came in. -/
def IsRow (k : IntKind) (w : World) (a : Option Addr) (len cap : Nat) (zs : List Int) : Prop :=
  (a = none ∧ len = 0 ∧ cap = 0 ∧ zs = []) ∨
  ∃ x, a = some x ∧ len ≤ cap ∧ cap ≤ maxLen ∧ zs.length = cap ∧ (∀ i, i < zs.length → w.cell? (x.add i) = some (.int k (zs.getD i 0))) ∧ ∀ n ∈ zs, (Lit.int k n).wf = true
/-- A number and an error come back; old memory is as it was. -/
def RetE (x : Value) (n : Int) (w : World) (e : Ending) (w' : World) : Prop := ∃ E : GErr, e = .returned (.tuple #[x, E.val]) ∧ E.ok ∧ E.num = n ∧ Below w.heap.size w w'
theorem ret2_int {k : IntKind} {l : IntKind} {a b c d : Int} (h : a = b) (g : c = d) : Ending.returned (.tuple #[.int k a, .int l c]) = .returned (.tuple #[.int k b, .int l d]) := by rw [h, g]

/-- What is above 0 together; what is below 0 together. -/
def upSum : List Int → Int
  | [] => 0
  | x :: r => (if 0 ≤ x then x else 0) + upSum r
def downSum : List Int → Int
  | [] => 0
  | x :: r => (if 0 ≤ x then 0 else -x) + downSum r
def theSum : List Int → Int
  | [] => 0
  | x :: r => x + theSum r
theorem theSum_split (l : List Int) : theSum l = upSum l - downSum l := by
  induction l with
  | nil => rfl
  | cons x r ih => simp only [theSum, upSum, downSum, ih]; split <;> omega
theorem upSum_append (a b : List Int) : upSum (a ++ b) = upSum a + upSum b := by
  induction a with
  | nil => simp [upSum]
  | cons x r ih => simp only [List.cons_append, upSum, ih]; omega
theorem downSum_append (a b : List Int) : downSum (a ++ b) = downSum a + downSum b := by
  induction a with
  | nil => simp [downSum]
  | cons x r ih => simp only [List.cons_append, downSum, ih]; omega
theorem theSum_append (a b : List Int) : theSum (a ++ b) = theSum a + theSum b := by
  induction a with
  | nil => simp [theSum]
  | cons x r ih => simp only [List.cons_append, theSum, ih]; omega
theorem upSum_nonneg (l : List Int) : 0 ≤ upSum l := by
  induction l with
  | nil => simp [upSum]
  | cons x r ih => simp only [upSum]; split <;> omega
theorem downSum_nonneg (l : List Int) : 0 ≤ downSum l := by
  induction l with
  | nil => simp [downSum]
  | cons x r ih => simp only [downSum]; split <;> omega
def In64 (l : List Int) : Prop := ∀ x ∈ l, -9223372036854775808 ≤ x ∧ x ≤ 9223372036854775807
theorem upSum_le (l : List Int) (h : In64 l) : upSum l ≤ 9223372036854775808 * l.length := by
  induction l with
  | nil => simp [upSum]
  | cons x r ih =>
    have := h x (by simp)
    have := ih fun y hy => h y (by simp [hy])
    simp only [upSum, List.length_cons]
    split <;> omega
theorem downSum_le (l : List Int) (h : In64 l) : downSum l ≤ 9223372036854775808 * l.length := by
  induction l with
  | nil => simp [downSum]
  | cons x r ih =>
    have := h x (by simp)
    have := ih fun y hy => h y (by simp [hy])
    simp only [downSum, List.length_cons]
    split <;> omega
theorem take_next (l : List Int) (i : Nat) (h : i < l.length) : l.take (i + 1) = l.take i ++ [l.getD i 0] := by
  rw [List.take_succ_eq_append_getElem h]
  simp [List.getD_eq_getElem?_getD, h]
def sumE (l : List Int) : Int := if -9223372036854775808 ≤ theSum l ∧ theSum l ≤ 9223372036854775807 then 0 else 9
def sumV (l : List Int) : Int := if -9223372036854775808 ≤ theSum l ∧ theSum l ≤ 9223372036854775807 then theSum l else 0
theorem sum_bad {l : List Int} (h : theSum l < -9223372036854775808 ∨ 9223372036854775807 < theSum l) : (0, 9) = (sumV l, sumE l) := by
  unfold sumV sumE
  rw [if_neg (by omega), if_neg (by omega)]
theorem sum_good {l : List Int} (h : -9223372036854775808 ≤ theSum l) (g : theSum l ≤ 9223372036854775807) (x : Int) (e : x = theSum l) : (x, 0) = (sumV l, sumE l) := by
  unfold sumV sumE
  rw [if_pos ⟨h, g⟩, if_pos ⟨h, g⟩, e]
theorem getD_in {l : List Int} (hin : In64 l) {i : Nat} (h : i < l.length) : -9223372036854775808 ≤ l.getD i 0 ∧ l.getD i 0 ≤ 9223372036854775807 := hin _ (by simp [List.getD_eq_getElem?_getD, h])
theorem idx_next {i n : Nat} (h : i < n) (hn : n * 8 ≤ 140737488351232) : wrap64 ((i : Int) + 1) = ((i + 1 : Nat) : Int) := by unfold wrap64; omega
end Go.Proofs.Ytccnfklemalmeaa
