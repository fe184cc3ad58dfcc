/- Joined texts of this proof: Gerr. -/
import Derived.Test.YtphabkaiheplpaaGreatDoorProg
import Derived.WalkKit
import Derived.LaidEql
import Derived.Stop.Asserts
import Derived.RowKitTokens
import Derived.WalkLawsBesides
import Derived.WideLaws
import Derived.Below
/- Worlds below a mark; the errors that the program makes, as values: nil or not. -/
set_option linter.unusedVariables false
set_option linter.unusedSimpArgs false
set_option maxRecDepth 100000
namespace Go.Proofs.YtphabkaiheplpaaGreatDoor
open Go.RowKit

theorem bl_refl (w : World) : Below w.heap.size w w := Below.refl _ _
theorem bl_alloc {w W : World} (h : Below w.heap.size w W) (o : Obj) : Below w.heap.size w (W.alloc o) := h.alloc h.size o
theorem bl_drew {B : Nat} {w W : World} (h : Below B w W) : Below B w W.drew := ⟨h.os, h.tape, h.output, h.size, h.block⟩
theorem bl_drewN {B : Nat} {w W : World} (h : Below B w W) (n : Nat) : Below B w (W.drewN n) := ⟨h.os, h.tape, h.output, h.size, h.block⟩
theorem bl_then {w w1 w2 : World} (h : Below w.heap.size w w1) (k : Below w1.heap.size w1 w2) : Below w.heap.size w w2 :=
  h.trans ⟨k.os, k.tape, k.output, k.size, fun i hi => k.block i (Nat.lt_of_lt_of_le hi h.size)⟩
theorem bl_cell {w w1 : World} (h : Below w.heap.size w w1) {a : Addr} {v : Value} (hc : w.cell? a = some v) : w1.cell? a = some v := (h.cell (World.block_lt_of_cell? w a hc)).trans hc

theorem bcell {W w1 : World} (hb : Below W.heap.size W w1) : (∀ b o, b < W.heap.size → w1.cell? ⟨b, o, none⟩ = W.cell? ⟨b, o, none⟩) ∧ (∀ b o, b < W.heap.size → w1.frozen? ⟨b, o, none⟩ = W.frozen? ⟨b, o, none⟩) :=
  ⟨fun b o h => hb.cell (p := ⟨b, o, none⟩) h, fun b o h => hb.frozen (p := ⟨b, o, none⟩) h⟩
theorem al_cell {w : World} {a : Addr} {v : Value} (h : w.cell? a = some v) {o : Obj} : (w.alloc o).cell? a = some v := by
  rw [World.cell?_alloc_lt w o a (World.block_lt_of_cell? w a h)]
  exact h
theorem new_free {w w1 : World} {c : Array Value} {t : TypeId} (hb : Below (w.alloc (.cells c t)).heap.size (w.alloc (.cells c t)) w1) (j : Nat) : w1.frozen? ⟨w.heap.size, j, none⟩ = false := by
  rw [hb.frozen (p := ⟨w.heap.size, j, none⟩) (by simp)]
  simp
theorem new_size {w w1 : World} {o : Obj} (hb : Below (w.alloc o).heap.size (w.alloc o) w1) : w.heap.size < w1.heap.size := by
  have := hb.size
  simp at this
  omega
theorem bl_set {w W : World} (h : Below w.heap.size w W) {p : Addr} (hp : w.heap.size ≤ p.block) (v : Value) : Below w.heap.size w (W.setCell p v) := h.setCell hp v
theorem st_cell {w : World} {a b o p : Nat} {v u : Value} (h : w.cell? ⟨a, o, none⟩ = some v) (hne : a < b) : (w.setCell ⟨b, p, none⟩ u).cell? ⟨a, o, none⟩ = some v := by
  rw [World.cell?_setCell_other w _ _ u (fun e => by injection e; omega)]
  exact h
/-- The errors that the program makes: nil, a number, a struct of a text and a number. -/
inductive GErr where
  | nil
  | no (n : Int)
  | fault (n r a : Int)
  | codes (s : ByteArray) (n : Int)
  | mtch (s : ByteArray) (n : Int)
  | notice (s : ByteArray) (n : Int)
def GErr.val : GErr → Value
  | .nil => .nilIface
  | .no n => .iface 84 (.int .i64 n)
  | .fault n r a => .iface 150 (.agg #[.int .i64 n, .int .i64 r, .int .i64 a])
  | .codes s n => .iface 196 (.agg #[.string s, .int .i64 n])
  | .mtch s n => .iface 87 (.agg #[.string s, .int .i64 n])
  | .notice s n => .iface 136 (.agg #[.string s, .int .i64 n])
def GErr.num : GErr → Int
  | .nil => 0
  | .no n => n
  | .fault n _ _ => n
  | .codes _ n => n
  | .mtch _ n => n
  | .notice _ n => n
/-- An error that tells no place. -/
def GErr.plain : GErr → Bool
  | .fault _ _ _ => false
  | _ => true
def GErr.isNil : GErr → Bool
  | .nil => true
  | _ => false
theorem GErr.isNil_false {E : GErr} (h : E ≠ .nil) : E.isNil = false := by cases E <;> first | exact absurd rfl h | rfl
/-- Its number is one of the 24. -/
def GErr.ok (E : GErr) : Prop := E = .nil ∨ 1 ≤ E.num ∧ E.num ≤ 24
theorem GErr.ok_range {E : GErr} (h : E.ok) : 0 ≤ E.num ∧ E.num ≤ 24 := by
  rcases h with h | h
  · subst h; simp [GErr.num]
  · omega

theorem eql_nil_err (E : GErr) (w : World) : (binOp .eql 36 E.val .nilIface).run Tryz.prog w = .ok (.bool E.isNil) w := by
  cases E <;> kernel_rfl

theorem guard_err (E : GErr) (x : Operand) (c : Value) (w : World) : (eqGuard .eql 36 x (.const c) E.val .nilIface).run Tryz.prog w = .ok () w := by
  cases E <;> first | rfl | (cases x <;> rfl)
theorem guard_errN (E : GErr) (x : Operand) (c : Value) (w : World) : (eqGuard .neq 36 x (.const c) E.val .nilIface).run Tryz.prog w = .ok () w := by
  cases E <;> first | rfl | (cases x <;> rfl)
theorem neq_nil_err (E : GErr) (w : World) : (binOp .neq 36 E.val .nilIface).run Tryz.prog w = .ok (.bool (!E.isNil)) w := by
  cases E <;> kernel_rfl


end Go.Proofs.YtphabkaiheplpaaGreatDoor
