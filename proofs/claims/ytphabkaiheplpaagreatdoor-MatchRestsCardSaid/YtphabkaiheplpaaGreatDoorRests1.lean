/- Joined texts of this proof: Gerr, OwnB, ErrG, ErrAsG. -/
import Derived.Test.YtphabkaiheplpaaGreatDoorProg
import Derived.WalkKit
import Derived.LaidEql
import Derived.Stop.Asserts
import Derived.RowKitTokens
import Derived.WalkLawsBesides
import Derived.WideLaws
import Derived.Below
import Derived.Laws.AppendOwn
import Derived.Laws.OwnMore
/- Worlds below a mark; the errors that the program makes, as values: nil or not. -/
set_option linter.unusedVariables false
set_option linter.unusedSimpArgs false
set_option maxRecDepth 100000
namespace Go.Proofs.YtphabkaiheplpaaGreatDoor
open Go.RowKit

theorem bl_refl (w : World) : Below w.heap.size w w := Below.refl _ _
theorem bl_alloc {w W : World} (h : Below w.heap.size w W) (o : Obj) : Below w.heap.size w (W.alloc o) := h.alloc h.size o
theorem bl_drew {B : Nat} {w W : World} (h : Below B w W) : Below B w W.drew := ⟨h.os, h.tape, h.output, h.size, h.block⟩
theorem bl_drewN {B : Nat} {w W : World} (h : Below B w W) (n : Nat) : Below B w (W.drewN n) := ⟨h.os, h.tape, h.output, h.size, h.block⟩
theorem bl_then {w w1 w2 : World} (h : Below w.heap.size w w1) (k : Below w1.heap.size w1 w2) : Below w.heap.size w w2 :=
  h.trans ⟨k.os, k.tape, k.output, k.size, fun i hi => k.block i (Nat.lt_of_lt_of_le hi h.size)⟩
theorem bl_cell {w w1 : World} (h : Below w.heap.size w w1) {a : Addr} {v : Value} (hc : w.cell? a = some v) : w1.cell? a = some v := (h.cell (World.block_lt_of_cell? w a hc)).trans hc

theorem bcell {W w1 : World} (hb : Below W.heap.size W w1) : (∀ b o, b < W.heap.size → w1.cell? ⟨b, o, none⟩ = W.cell? ⟨b, o, none⟩) ∧ (∀ b o, b < W.heap.size → w1.frozen? ⟨b, o, none⟩ = W.frozen? ⟨b, o, none⟩) :=
  ⟨fun b o h => hb.cell (p := ⟨b, o, none⟩) h, fun b o h => hb.frozen (p := ⟨b, o, none⟩) h⟩
theorem al_cell {w : World} {a : Addr} {v : Value} (h : w.cell? a = some v) {o : Obj} : (w.alloc o).cell? a = some v := by
  rw [World.cell?_alloc_lt w o a (World.block_lt_of_cell? w a h)]
  exact h
theorem new_free {w w1 : World} {c : Array Value} {t : TypeId} (hb : Below (w.alloc (.cells c t)).heap.size (w.alloc (.cells c t)) w1) (j : Nat) : w1.frozen? ⟨w.heap.size, j, none⟩ = false := by
  rw [hb.frozen (p := ⟨w.heap.size, j, none⟩) (by simp)]
  simp
theorem new_size {w w1 : World} {o : Obj} (hb : Below (w.alloc o).heap.size (w.alloc o) w1) : w.heap.size < w1.heap.size := by
  have := hb.size
  simp at this
  omega
theorem bl_set {w W : World} (h : Below w.heap.size w W) {p : Addr} (hp : w.heap.size ≤ p.block) (v : Value) : Below w.heap.size w (W.setCell p v) := h.setCell hp v
theorem st_cell {w : World} {a b o p : Nat} {v u : Value} (h : w.cell? ⟨a, o, none⟩ = some v) (hne : a < b) : (w.setCell ⟨b, p, none⟩ u).cell? ⟨a, o, none⟩ = some v := by
  rw [World.cell?_setCell_other w _ _ u (fun e => by injection e; omega)]
  exact h
/-- The errors that the program makes: nil, a number, a struct of a text and a number. -/
inductive GErr where
  | nil
  | no (n : Int)
  | fault (n r a : Int)
  | codes (s : ByteArray) (n : Int)
  | mtch (s : ByteArray) (n : Int)
  | notice (s : ByteArray) (n : Int)
def GErr.val : GErr → Value
  | .nil => .nilIface
  | .no n => .iface 84 (.int .i64 n)
  | .fault n r a => .iface 150 (.agg #[.int .i64 n, .int .i64 r, .int .i64 a])
  | .codes s n => .iface 196 (.agg #[.string s, .int .i64 n])
  | .mtch s n => .iface 87 (.agg #[.string s, .int .i64 n])
  | .notice s n => .iface 136 (.agg #[.string s, .int .i64 n])
def GErr.num : GErr → Int
  | .nil => 0
  | .no n => n
  | .fault n _ _ => n
  | .codes _ n => n
  | .mtch _ n => n
  | .notice _ n => n
/-- An error that tells no place. -/
def GErr.plain : GErr → Bool
  | .fault _ _ _ => false
  | _ => true
def GErr.isNil : GErr → Bool
  | .nil => true
  | _ => false
theorem GErr.isNil_false {E : GErr} (h : E ≠ .nil) : E.isNil = false := by cases E <;> first | exact absurd rfl h | rfl
/-- Its number is one of the 24. -/
def GErr.ok (E : GErr) : Prop := E = .nil ∨ 1 ≤ E.num ∧ E.num ≤ 24
theorem GErr.ok_range {E : GErr} (h : E.ok) : 0 ≤ E.num ∧ E.num ≤ 24 := by
  rcases h with h | h
  · subst h; simp [GErr.num]
  · omega

theorem eql_nil_err (E : GErr) (w : World) : (binOp .eql 36 E.val .nilIface).run Tryz.prog w = .ok (.bool E.isNil) w := by
  cases E <;> kernel_rfl

theorem guard_err (E : GErr) (x : Operand) (c : Value) (w : World) : (eqGuard .eql 36 x (.const c) E.val .nilIface).run Tryz.prog w = .ok () w := by
  cases E <;> first | rfl | (cases x <;> rfl)
theorem guard_errN (E : GErr) (x : Operand) (c : Value) (w : World) : (eqGuard .neq 36 x (.const c) E.val .nilIface).run Tryz.prog w = .ok () w := by
  cases E <;> first | rfl | (cases x <;> rfl)
theorem neq_nil_err (E : GErr) (w : World) : (binOp .neq 36 E.val .nilIface).run Tryz.prog w = .ok (.bool (!E.isNil)) w := by
  cases E <;> kernel_rfl


end Go.Proofs.YtphabkaiheplpaaGreatDoor
/- append to a row of one's own: the block behind it is the row's own or a new one. -/
set_option linter.unusedVariables false
set_option linter.unusedSimpArgs false
namespace Go.Proofs.YtphabkaiheplpaaGreatDoor
open Go.RowKit

/-- The value's block is the old one's, or made since. -/
def OrNew (w : World) (v v' : Value) : Prop := v'.ownBlock = v.ownBlock ∨ ∃ g, v'.ownBlock = some g ∧ w.heap.size ≤ g
theorem append_block {P : Program} {w : World} {base : Nat} {t ty e : TypeId} {i : TypeInfo} {z : Value} {size bytes : Nat} (ht : P.underlying t = some (.slice e)) (hi : P.info? e = some i) (hz : i.zero = some z)
    (hsize : i.size = size) (hby : i.bytes = bytes) {v : Value} {n : Nat} {xs : List Value} (hown : w.ownsRow base e size v n xs)
    (a : Addr) (m c : Nat) (news : List Value) (hl : news.length = m * size) (hnews : ∀ j u, news[j]? = some u → w.cell? (a.add j) = some u) (h1 : ∀ u ∈ news, u.oneCell' = true)
    (h63 : n + m ≤ maxLen) (hbytes : (n + m) * bytes ≤ 140737488355328) (hm : 0 < m) {v' : Value} {w' : World} (hr : (Builtin.append_ #[t, t] ty #[v, .slice (some a) m c]).run P w = .ok v' w') : OrNew w v v' := by
  subst hsize
  subst hby
  have b63 : n + m ≤ 9223372036854775807 := by simp only [maxLen] at h63; omega
  rcases hown.2 with ⟨rfl, rfl⟩ | ⟨g, cap, cur, rfl, hbg, hg, hnc, hcm, hcs, htake⟩
  · have h2 := run_append_nil (P := P) w t ty e i z ht hi hz a m c news hl hnews hm (by omega) (by rw [Nat.zero_add] at hbytes; omega)
    rw [h2] at hr
    injection hr with e1 _
    rw [← e1]
    exact .inr ⟨_, rfl, Nat.le_refl _⟩
  · by_cases hroom : n + m ≤ cap
    · have hfit : n * i.size + news.length ≤ cur.size := by
        rw [hl, hcs, ← Nat.add_mul]
        exact Nat.mul_le_mul_right _ hroom
      have h2 := run_append_room (P := P) w t ty e i ht hi g n cap cur hg a m c news hl hnews h1 hroom hfit
      rw [h2] at hr
      injection hr with e1 _
      rw [← e1]
      exact .inl rfl
    · have h2 := run_append_grow (P := P) w t ty e i z ht hi hz ⟨g, 0, none⟩ n cap xs hown.1 (hown.cells (g := g) rfl) a m c news hl hnews (by omega) (by omega) (growslice_fits (by omega) hbytes)
      rw [h2] at hr
      injection hr with e1 _
      rw [← e1]
      exact .inr ⟨_, rfl, Nat.le_refl _⟩
/-- At the operation. -/
theorem wp_append_new {P : Program} {w : World} {o : Oper} {a : Act} {K : Act → World → Prop} {Q : Exit → Act → World → Prop} (s x : Operand) (t : TypeId)
    (ho : o.op = .call { callee := .builtin .append, args := #[s, x], argTypes := #[t, t] })
    (base : Nat) (e : TypeId) (i : TypeInfo) (z : Value) (size bytes : Nat) (ht : P.underlying t = some (.slice e)) (hi : P.info? e = some i) (hz : i.zero = some z)
    (hsize : i.size = size) (hby : i.bytes = bytes) (hzs : z.cells.size = size) (hsz : 0 < size)
    (v : Value) (n : Nat) (xs : List Value) (hs : a.eval s = v) (hown : w.ownsRow base e size v n xs)
    (ad : Addr) (m c : Nat) (news : List Value) (hx : a.eval x = .slice (some ad) m c) (hl : news.length = m * size) (hnews : ∀ j u, news[j]? = some u → w.cell? (ad.add j) = some u) (h1 : ∀ u ∈ news, u.oneCell' = true)
    (h63 : n + m ≤ maxLen) (hbytes : (n + m) * bytes ≤ 140737488355328) (hbase : base ≤ w.heap.size) (hm : 0 < m)
    (h : ∀ v' w', w'.ownsRow base e size v' (n + m) (xs ++ news) → w.grownBy w' v.ownBlock → OrNew w v v' → K (a.put o.dst v') w') : o.wp P a w K Q := by
  obtain ⟨v', w', hr, h2, h3, _⟩ := run_append_own (P := P) w base t o.type e i z size bytes ht hi hz hsize hby hzs hsz v n xs hown ad m c news hl hnews h1 h63 hbytes hbase
  have h4 := append_block ht hi hz hsize hby hown ad m c news hl hnews h1 h63 hbytes hm hr
  unfold Oper.wp execOp
  simp only [ho, resolve, invoke, builtin, Sem.run_bind, Sem.run_pure, Result.andThen_ok, List.map_toArray, List.map_cons, List.map_nil, hs, hx, hr]
  exact h v' w' h2 h3 h4
theorem wpList_append_new {P : Program} {w : World} {ops : Array Oper} {rest : List Oper} {o : Oper} {a : Act} {Q : Exit → Act → World → Prop} (hgd : o.guard = none) (s x : Operand) (t : TypeId)
    (ho : o.op = .call { callee := .builtin .append, args := #[s, x], argTypes := #[t, t] })
    (base : Nat) (e : TypeId) (i : TypeInfo) (z : Value) (size bytes : Nat) (ht : P.underlying t = some (.slice e)) (hi : P.info? e = some i) (hz : i.zero = some z)
    (hsize : i.size = size) (hby : i.bytes = bytes) (hzs : z.cells.size = size) (hsz : 0 < size)
    (v : Value) (n : Nat) (xs : List Value) (hs : a.eval s = v) (hown : w.ownsRow base e size v n xs)
    (ad : Addr) (m c : Nat) (news : List Value) (hx : a.eval x = .slice (some ad) m c) (hl : news.length = m * size) (hnews : ∀ j u, news[j]? = some u → w.cell? (ad.add j) = some u) (h1 : ∀ u ∈ news, u.oneCell' = true)
    (h63 : n + m ≤ maxLen) (hbytes : (n + m) * bytes ≤ 140737488355328) (hbase : base ≤ w.heap.size) (hm : 0 < m)
    (h : ∀ v' w', w'.ownsRow base e size v' (n + m) (xs ++ news) → w.grownBy w' v.ownBlock → OrNew w v v' → wpList P ops Q rest (a.put o.dst v') w') : wpList P ops Q (o :: rest) a w :=
  wpList_plain hgd fun _ hK => wp_append_new s x t ho base e i z size bytes ht hi hz hsize hby hzs hsz v n xs hs hown ad m c news hx hl hnews h1 h63 hbytes hbase hm fun v' w' h2 h3 h4 => hK _ _ (h v' w' h2 h3 h4)
end Go.Proofs.YtphabkaiheplpaaGreatDoor
/- errors.Is, errors.As and the kit's Num and Plain, by contracts, over the errors that the program makes: nil, an api.Errno, a struct that wraps one. -/
set_option linter.unusedVariables false
set_option linter.unusedSimpArgs false
set_option maxRecDepth 100000
namespace Go.Proofs.YtphabkaiheplpaaGreatDoor
open Go.RowKit Go.Extern.Stop Go.Stop Go.Extern Go.Extern.Rtype

theorem run_equalIn_iface_int {P : Program} (w : World) (d : Nat) {ti tn : TypeId} {ms : Array (String × TypeId)} {i : TypeInfo} {k : IntKind} (a b : Int)
    (hi : P.underlying ti = some (.interface ms)) (hn : P.underlying tn = some (.int k)) (hinfo : P.info? tn = some i) (hcomp : i.comparable = true) :
    (Op.equalIn (d + 2) ti (.iface tn (.int k a)) (.iface tn (.int k b))).run P w = .ok (a == b) w := by
  simp [Op.equalIn, run_underlying hi, run_underlying hn, typeInfo, hinfo, hcomp]
theorem run_eql_iface_int {P : Program} (w : World) {ti tn : TypeId} {ms : Array (String × TypeId)} {i : TypeInfo} {k : IntKind} (a b : Int)
    (hi : P.underlying ti = some (.interface ms)) (hn : P.underlying tn = some (.int k)) (hinfo : P.info? tn = some i) (hcomp : i.comparable = true) :
    (binOp .eql ti (.iface tn (.int k a)) (.iface tn (.int k b))).run P w = .ok (.bool (a == b)) w := by
  simp only [binOp]
  simp [Op.equal, Op.maxDepth, run_equalIn_iface_int w 9998 a b hi hn hinfo hcomp]

/-! ### closed facts on api.Errno -/
theorem ex_typeOf (args : Array Value) (w : World) : (callFunc 64 args).run Tryz.prog w = ((ReflectliteType.typeOf args).run Tryz.prog w).andThen fun v w' => .ok (.value v) w' :=
  run_callFunc_extern Tryz.func64 (by kernel_rfl) (by kernel_rfl) (by kernel_rfl) (by kernel_rfl) args w
theorem ex_comparable (args : Array Value) (w : World) : (callFunc 216 args).run Tryz.prog w = ((ReflectliteType.method (fun t => do noPackHeld "Comparable" t; pure (.bool (← typeInfo t).comparable)) args).run Tryz.prog w).andThen fun v w' => .ok (.value v) w' :=
  run_callFunc_extern Tryz.func216 (by kernel_rfl) (by kernel_rfl) (by kernel_rfl) (by kernel_rfl) args w

theorem er_comp : (Tryz.prog.info? 84).map (·.comparable) = some true := by kernel_rfl
theorem er_eq (a b : Int) (w : World) : (binOp .eql 36 (.iface 84 (.int .i64 a)) (.iface 84 (.int .i64 b))).run Tryz.prog w = .ok (.bool (a == b)) w := by
  obtain ⟨i, hi, hcmp⟩ := Option.map_eq_some_iff.1 er_comp
  exact run_eql_iface_int w a b Tryz.underlying36 Tryz.underlying84 hi hcmp
theorem er_typeOf (v : Value) (w : World) : (callFunc 64 #[.iface 84 v]).run Tryz.prog w = .ok (.value (.iface 174 (.agg #[.pointer (some ⟨7, 84, none⟩)]))) w := by
  rw [ex_typeOf]
  kernel_rfl
theorem er_comparable (w : World) : (callFunc 216 #[.agg #[.pointer (some ⟨7, 84, none⟩)]]).run Tryz.prog w = .ok (.value (.bool true)) w := by
  rw [ex_comparable]
  kernel_rfl
theorem er_methodComparable (v : Value) (w : World) : (Go.method 396 174 v "Comparable").run Tryz.prog w = .ok (216, v) w := by kernel_rfl
theorem er_noIs (v : Value) (xT : TypeId) (w : World) : (Instr.typeAssert (.iface 84 v) xT 176 true).run Tryz.prog w = .ok (.tuple #[.nilIface, .bool false]) w := run_typeAssert_lacksB Tryz.underlying176 (by kernel_rfl) (by kernel_rfl) v xT w
theorem er_noUnwrap (v : Value) (xT : TypeId) (w : World) : (Instr.typeAssert (.iface 84 v) xT 178 true).run Tryz.prog w = .ok (.tuple #[.nilIface, .bool false]) w := run_typeAssert_lacksB Tryz.underlying178 (by kernel_rfl) (by kernel_rfl) v xT w
theorem er_noUnwraps (v : Value) (xT : TypeId) (w : World) : (Instr.typeAssert (.iface 84 v) xT 180 true).run Tryz.prog w = .ok (.tuple #[.nilIface, .bool false]) w := run_typeAssert_lacksB Tryz.underlying180 (by kernel_rfl) (by kernel_rfl) v xT w
theorem er_noAs (v : Value) (xT : TypeId) (w : World) : (Instr.typeAssert (.iface 84 v) xT 218 true).run Tryz.prog w = .ok (.tuple #[.nilIface, .bool false]) w := run_typeAssert_lacksB Tryz.underlying218 (by kernel_rfl) (by kernel_rfl) v xT w
theorem is_nil (m : Int) (w : World) :
    Calls Tryz.prog 31 #[.nilIface, .iface 84 (.int .i64 m)] w fun e w' => e = .returned (.bool false) ∧ w = w' := by
  have hn := run_eql_iface_nil_left (P := Tryz.prog) w 84 (.int .i64 m) Tryz.underlying36
  go_enter Tryz.func31, Tryz.ntmps31
  go_wp2
  go_ret
  exact ⟨rfl, rfl⟩

theorem is_no_yes (n m : Int) (w : World) (h : n = m) :
    Calls Tryz.prog 31 #[.iface 84 (.int .i64 n), .iface 84 (.int .i64 m)] w fun e w' => e = .returned (.bool true) ∧ w = w' := by
  have tT := er_typeOf
  have cT := er_comparable
  have mR := er_methodComparable
  have nI := er_noIs
  have nU := er_noUnwrap
  have nV := er_noUnwraps
  have heq : ∀ w, (binOp .eql 36 (.iface 84 (.int .i64 n)) (.iface 84 (.int .i64 m))).run Tryz.prog w = .ok (.bool true) w := fun w => by rw [er_eq]; simp [h]
  clear h
  go_enter Tryz.func31, Tryz.ntmps31
  go_wp2
  refine wp_loop_rounds 1 ?_
  rw [rounds_succ]
  go_wp2
  go_ret
  exact ⟨rfl, rfl⟩
theorem is_no_no (n m : Int) (w : World) (h : n ≠ m) :
    Calls Tryz.prog 31 #[.iface 84 (.int .i64 n), .iface 84 (.int .i64 m)] w fun e w' => e = .returned (.bool false) ∧ w = w' := by
  have tT := er_typeOf
  have cT := er_comparable
  have mR := er_methodComparable
  have nI := er_noIs
  have nU := er_noUnwrap
  have nV := er_noUnwraps
  have heq : ∀ w, (binOp .eql 36 (.iface 84 (.int .i64 n)) (.iface 84 (.int .i64 m))).run Tryz.prog w = .ok (.bool false) w := fun w => by rw [er_eq]; simp [h]
  clear h
  go_enter Tryz.func31, Tryz.ntmps31
  go_wp2
  refine wp_loop_rounds 1 ?_
  rw [rounds_succ]
  go_wp2
  go_ret
  exact ⟨rfl, rfl⟩

/-! ### structs that wrap a number -/
theorem wr_codes_Unwrap (s : ByteArray) (n : Int) (w : World) : Calls Tryz.prog 229 #[.agg #[.string s, .int .i64 n]] w fun e w' => e = .returned (.iface 84 (.int .i64 n)) ∧ Below w.heap.size w w' := by
  go_enter Tryz.func229, Tryz.ntmps229
  go_wp2
  go_ret
  exact ⟨rfl, bl_alloc (bl_refl _) _⟩
theorem wr_codes_method (v : Value) (w : World) : (Go.method 396 196 v "Unwrap").run Tryz.prog w = .ok (229, v) w := by kernel_rfl
theorem wr_codes_typeOf (v : Value) (w : World) : (callFunc 64 #[.iface 196 v]).run Tryz.prog w = .ok (.value (.iface 174 (.agg #[.pointer (some ⟨7, 196, none⟩)]))) w := by
  rw [ex_typeOf]
  kernel_rfl
theorem wr_codes_noIs (v : Value) (xT : TypeId) (w : World) : (Instr.typeAssert (.iface 196 v) xT 176 true).run Tryz.prog w = .ok (.tuple #[.nilIface, .bool false]) w := run_typeAssert_lacksB Tryz.underlying176 (by kernel_rfl) (by kernel_rfl) v xT w
theorem wr_codes_noUnwraps (v : Value) (xT : TypeId) (w : World) : (Instr.typeAssert (.iface 196 v) xT 180 true).run Tryz.prog w = .ok (.tuple #[.nilIface, .bool false]) w := run_typeAssert_lacksB Tryz.underlying180 (by kernel_rfl) (by kernel_rfl) v xT w
theorem wr_codes_noAs (v : Value) (xT : TypeId) (w : World) : (Instr.typeAssert (.iface 196 v) xT 218 true).run Tryz.prog w = .ok (.tuple #[.nilIface, .bool false]) w := run_typeAssert_lacksB Tryz.underlying218 (by kernel_rfl) (by kernel_rfl) v xT w
theorem wr_codes_hasUnwrap (v : Value) (xT : TypeId) (w : World) : (Instr.typeAssert (.iface 196 v) xT 178 true).run Tryz.prog w = .ok (.tuple #[.iface 196 v, .bool true]) w := run_typeAssert_hasB Tryz.underlying178 (by kernel_rfl) v xT w
theorem is_codes_yes (s : ByteArray) (n m : Int) (w : World) (h : n = m) :
    Calls Tryz.prog 31 #[.iface 196 (.agg #[.string s, .int .i64 n]), .iface 84 (.int .i64 m)] w fun e w' => e = .returned (.bool true) ∧ Below w.heap.size w w' := by
  have tT := er_typeOf
  have cT := er_comparable
  have mR := er_methodComparable
  have nI := er_noIs
  have nU := er_noUnwrap
  have nV := er_noUnwraps
  have wI := wr_codes_noIs
  have wU := wr_codes_hasUnwrap
  have wM := wr_codes_method
  have heq : ∀ w, (binOp .eql 36 (.iface 84 (.int .i64 n)) (.iface 84 (.int .i64 m))).run Tryz.prog w = .ok (.bool true) w := fun w => by rw [er_eq]; simp [h]
  have hty : ∀ w, (binOp .eql 36 (.iface 196 (.agg #[.string s, .int .i64 n])) (.iface 84 (.int .i64 m))).run Tryz.prog w = .ok (.bool false) w := fun w => run_eql_iface_types (P := Tryz.prog) _ _ _ _ Tryz.underlying36 (by decide) w
  have hni : ∀ w, (binOp .eql 36 (.iface 84 (.int .i64 n)) .nilIface).run Tryz.prog w = .ok (.bool false) w := fun w => by first | kernel_rfl
  clear h
  go_enter Tryz.func31, Tryz.ntmps31
  go_wp2
  refine wp_loop_rounds 2 ?_
  rw [rounds_succ]
  go_wp2_with (go_at_call 229; refine (wr_codes_Unwrap s n _).mono ?_; rintro e w1 ⟨rfl, hb⟩)
  rw [rounds_succ]
  go_wp2
  go_ret
  exact ⟨rfl, hb⟩
theorem is_codes_no (s : ByteArray) (n m : Int) (w : World) (h : n ≠ m) :
    Calls Tryz.prog 31 #[.iface 196 (.agg #[.string s, .int .i64 n]), .iface 84 (.int .i64 m)] w fun e w' => e = .returned (.bool false) ∧ Below w.heap.size w w' := by
  have tT := er_typeOf
  have cT := er_comparable
  have mR := er_methodComparable
  have nI := er_noIs
  have nU := er_noUnwrap
  have nV := er_noUnwraps
  have wI := wr_codes_noIs
  have wU := wr_codes_hasUnwrap
  have wM := wr_codes_method
  have heq : ∀ w, (binOp .eql 36 (.iface 84 (.int .i64 n)) (.iface 84 (.int .i64 m))).run Tryz.prog w = .ok (.bool false) w := fun w => by rw [er_eq]; simp [h]
  have hty : ∀ w, (binOp .eql 36 (.iface 196 (.agg #[.string s, .int .i64 n])) (.iface 84 (.int .i64 m))).run Tryz.prog w = .ok (.bool false) w := fun w => run_eql_iface_types (P := Tryz.prog) _ _ _ _ Tryz.underlying36 (by decide) w
  have hni : ∀ w, (binOp .eql 36 (.iface 84 (.int .i64 n)) .nilIface).run Tryz.prog w = .ok (.bool false) w := fun w => by first | kernel_rfl
  clear h
  go_enter Tryz.func31, Tryz.ntmps31
  go_wp2
  refine wp_loop_rounds 2 ?_
  rw [rounds_succ]
  go_wp2_with (go_at_call 229; refine (wr_codes_Unwrap s n _).mono ?_; rintro e w1 ⟨rfl, hb⟩)
  rw [rounds_succ]
  go_wp2
  go_ret
  exact ⟨rfl, hb⟩
theorem wr_mtch_Unwrap (s : ByteArray) (n : Int) (w : World) : Calls Tryz.prog 209 #[.agg #[.string s, .int .i64 n]] w fun e w' => e = .returned (.iface 84 (.int .i64 n)) ∧ Below w.heap.size w w' := by
  go_enter Tryz.func209, Tryz.ntmps209
  go_wp2
  go_ret
  exact ⟨rfl, bl_alloc (bl_refl _) _⟩
theorem wr_mtch_method (v : Value) (w : World) : (Go.method 396 87 v "Unwrap").run Tryz.prog w = .ok (209, v) w := by kernel_rfl
theorem wr_mtch_typeOf (v : Value) (w : World) : (callFunc 64 #[.iface 87 v]).run Tryz.prog w = .ok (.value (.iface 174 (.agg #[.pointer (some ⟨7, 87, none⟩)]))) w := by
  rw [ex_typeOf]
  kernel_rfl
theorem wr_mtch_noIs (v : Value) (xT : TypeId) (w : World) : (Instr.typeAssert (.iface 87 v) xT 176 true).run Tryz.prog w = .ok (.tuple #[.nilIface, .bool false]) w := run_typeAssert_lacksB Tryz.underlying176 (by kernel_rfl) (by kernel_rfl) v xT w
theorem wr_mtch_noUnwraps (v : Value) (xT : TypeId) (w : World) : (Instr.typeAssert (.iface 87 v) xT 180 true).run Tryz.prog w = .ok (.tuple #[.nilIface, .bool false]) w := run_typeAssert_lacksB Tryz.underlying180 (by kernel_rfl) (by kernel_rfl) v xT w
theorem wr_mtch_noAs (v : Value) (xT : TypeId) (w : World) : (Instr.typeAssert (.iface 87 v) xT 218 true).run Tryz.prog w = .ok (.tuple #[.nilIface, .bool false]) w := run_typeAssert_lacksB Tryz.underlying218 (by kernel_rfl) (by kernel_rfl) v xT w
theorem wr_mtch_hasUnwrap (v : Value) (xT : TypeId) (w : World) : (Instr.typeAssert (.iface 87 v) xT 178 true).run Tryz.prog w = .ok (.tuple #[.iface 87 v, .bool true]) w := run_typeAssert_hasB Tryz.underlying178 (by kernel_rfl) v xT w
theorem is_mtch_yes (s : ByteArray) (n m : Int) (w : World) (h : n = m) :
    Calls Tryz.prog 31 #[.iface 87 (.agg #[.string s, .int .i64 n]), .iface 84 (.int .i64 m)] w fun e w' => e = .returned (.bool true) ∧ Below w.heap.size w w' := by
  have tT := er_typeOf
  have cT := er_comparable
  have mR := er_methodComparable
  have nI := er_noIs
  have nU := er_noUnwrap
  have nV := er_noUnwraps
  have wI := wr_mtch_noIs
  have wU := wr_mtch_hasUnwrap
  have wM := wr_mtch_method
  have heq : ∀ w, (binOp .eql 36 (.iface 84 (.int .i64 n)) (.iface 84 (.int .i64 m))).run Tryz.prog w = .ok (.bool true) w := fun w => by rw [er_eq]; simp [h]
  have hty : ∀ w, (binOp .eql 36 (.iface 87 (.agg #[.string s, .int .i64 n])) (.iface 84 (.int .i64 m))).run Tryz.prog w = .ok (.bool false) w := fun w => run_eql_iface_types (P := Tryz.prog) _ _ _ _ Tryz.underlying36 (by decide) w
  have hni : ∀ w, (binOp .eql 36 (.iface 84 (.int .i64 n)) .nilIface).run Tryz.prog w = .ok (.bool false) w := fun w => by first | kernel_rfl
  clear h
  go_enter Tryz.func31, Tryz.ntmps31
  go_wp2
  refine wp_loop_rounds 2 ?_
  rw [rounds_succ]
  go_wp2_with (go_at_call 209; refine (wr_mtch_Unwrap s n _).mono ?_; rintro e w1 ⟨rfl, hb⟩)
  rw [rounds_succ]
  go_wp2
  go_ret
  exact ⟨rfl, hb⟩
theorem is_mtch_no (s : ByteArray) (n m : Int) (w : World) (h : n ≠ m) :
    Calls Tryz.prog 31 #[.iface 87 (.agg #[.string s, .int .i64 n]), .iface 84 (.int .i64 m)] w fun e w' => e = .returned (.bool false) ∧ Below w.heap.size w w' := by
  have tT := er_typeOf
  have cT := er_comparable
  have mR := er_methodComparable
  have nI := er_noIs
  have nU := er_noUnwrap
  have nV := er_noUnwraps
  have wI := wr_mtch_noIs
  have wU := wr_mtch_hasUnwrap
  have wM := wr_mtch_method
  have heq : ∀ w, (binOp .eql 36 (.iface 84 (.int .i64 n)) (.iface 84 (.int .i64 m))).run Tryz.prog w = .ok (.bool false) w := fun w => by rw [er_eq]; simp [h]
  have hty : ∀ w, (binOp .eql 36 (.iface 87 (.agg #[.string s, .int .i64 n])) (.iface 84 (.int .i64 m))).run Tryz.prog w = .ok (.bool false) w := fun w => run_eql_iface_types (P := Tryz.prog) _ _ _ _ Tryz.underlying36 (by decide) w
  have hni : ∀ w, (binOp .eql 36 (.iface 84 (.int .i64 n)) .nilIface).run Tryz.prog w = .ok (.bool false) w := fun w => by first | kernel_rfl
  clear h
  go_enter Tryz.func31, Tryz.ntmps31
  go_wp2
  refine wp_loop_rounds 2 ?_
  rw [rounds_succ]
  go_wp2_with (go_at_call 209; refine (wr_mtch_Unwrap s n _).mono ?_; rintro e w1 ⟨rfl, hb⟩)
  rw [rounds_succ]
  go_wp2
  go_ret
  exact ⟨rfl, hb⟩
theorem wr_notice_Unwrap (s : ByteArray) (n : Int) (w : World) : Calls Tryz.prog 211 #[.agg #[.string s, .int .i64 n]] w fun e w' => e = .returned (.iface 84 (.int .i64 n)) ∧ Below w.heap.size w w' := by
  go_enter Tryz.func211, Tryz.ntmps211
  go_wp2
  go_ret
  exact ⟨rfl, bl_alloc (bl_refl _) _⟩
theorem wr_notice_method (v : Value) (w : World) : (Go.method 396 136 v "Unwrap").run Tryz.prog w = .ok (211, v) w := by kernel_rfl
theorem wr_notice_typeOf (v : Value) (w : World) : (callFunc 64 #[.iface 136 v]).run Tryz.prog w = .ok (.value (.iface 174 (.agg #[.pointer (some ⟨7, 136, none⟩)]))) w := by
  rw [ex_typeOf]
  kernel_rfl
theorem wr_notice_noIs (v : Value) (xT : TypeId) (w : World) : (Instr.typeAssert (.iface 136 v) xT 176 true).run Tryz.prog w = .ok (.tuple #[.nilIface, .bool false]) w := run_typeAssert_lacksB Tryz.underlying176 (by kernel_rfl) (by kernel_rfl) v xT w
theorem wr_notice_noUnwraps (v : Value) (xT : TypeId) (w : World) : (Instr.typeAssert (.iface 136 v) xT 180 true).run Tryz.prog w = .ok (.tuple #[.nilIface, .bool false]) w := run_typeAssert_lacksB Tryz.underlying180 (by kernel_rfl) (by kernel_rfl) v xT w
theorem wr_notice_noAs (v : Value) (xT : TypeId) (w : World) : (Instr.typeAssert (.iface 136 v) xT 218 true).run Tryz.prog w = .ok (.tuple #[.nilIface, .bool false]) w := run_typeAssert_lacksB Tryz.underlying218 (by kernel_rfl) (by kernel_rfl) v xT w
theorem wr_notice_hasUnwrap (v : Value) (xT : TypeId) (w : World) : (Instr.typeAssert (.iface 136 v) xT 178 true).run Tryz.prog w = .ok (.tuple #[.iface 136 v, .bool true]) w := run_typeAssert_hasB Tryz.underlying178 (by kernel_rfl) v xT w
theorem is_notice_yes (s : ByteArray) (n m : Int) (w : World) (h : n = m) :
    Calls Tryz.prog 31 #[.iface 136 (.agg #[.string s, .int .i64 n]), .iface 84 (.int .i64 m)] w fun e w' => e = .returned (.bool true) ∧ Below w.heap.size w w' := by
  have tT := er_typeOf
  have cT := er_comparable
  have mR := er_methodComparable
  have nI := er_noIs
  have nU := er_noUnwrap
  have nV := er_noUnwraps
  have wI := wr_notice_noIs
  have wU := wr_notice_hasUnwrap
  have wM := wr_notice_method
  have heq : ∀ w, (binOp .eql 36 (.iface 84 (.int .i64 n)) (.iface 84 (.int .i64 m))).run Tryz.prog w = .ok (.bool true) w := fun w => by rw [er_eq]; simp [h]
  have hty : ∀ w, (binOp .eql 36 (.iface 136 (.agg #[.string s, .int .i64 n])) (.iface 84 (.int .i64 m))).run Tryz.prog w = .ok (.bool false) w := fun w => run_eql_iface_types (P := Tryz.prog) _ _ _ _ Tryz.underlying36 (by decide) w
  have hni : ∀ w, (binOp .eql 36 (.iface 84 (.int .i64 n)) .nilIface).run Tryz.prog w = .ok (.bool false) w := fun w => by first | kernel_rfl
  clear h
  go_enter Tryz.func31, Tryz.ntmps31
  go_wp2
  refine wp_loop_rounds 2 ?_
  rw [rounds_succ]
  go_wp2_with (go_at_call 211; refine (wr_notice_Unwrap s n _).mono ?_; rintro e w1 ⟨rfl, hb⟩)
  rw [rounds_succ]
  go_wp2
  go_ret
  exact ⟨rfl, hb⟩
theorem is_notice_no (s : ByteArray) (n m : Int) (w : World) (h : n ≠ m) :
    Calls Tryz.prog 31 #[.iface 136 (.agg #[.string s, .int .i64 n]), .iface 84 (.int .i64 m)] w fun e w' => e = .returned (.bool false) ∧ Below w.heap.size w w' := by
  have tT := er_typeOf
  have cT := er_comparable
  have mR := er_methodComparable
  have nI := er_noIs
  have nU := er_noUnwrap
  have nV := er_noUnwraps
  have wI := wr_notice_noIs
  have wU := wr_notice_hasUnwrap
  have wM := wr_notice_method
  have heq : ∀ w, (binOp .eql 36 (.iface 84 (.int .i64 n)) (.iface 84 (.int .i64 m))).run Tryz.prog w = .ok (.bool false) w := fun w => by rw [er_eq]; simp [h]
  have hty : ∀ w, (binOp .eql 36 (.iface 136 (.agg #[.string s, .int .i64 n])) (.iface 84 (.int .i64 m))).run Tryz.prog w = .ok (.bool false) w := fun w => run_eql_iface_types (P := Tryz.prog) _ _ _ _ Tryz.underlying36 (by decide) w
  have hni : ∀ w, (binOp .eql 36 (.iface 84 (.int .i64 n)) .nilIface).run Tryz.prog w = .ok (.bool false) w := fun w => by first | kernel_rfl
  clear h
  go_enter Tryz.func31, Tryz.ntmps31
  go_wp2
  refine wp_loop_rounds 2 ?_
  rw [rounds_succ]
  go_wp2_with (go_at_call 211; refine (wr_notice_Unwrap s n _).mono ?_; rintro e w1 ⟨rfl, hb⟩)
  rw [rounds_succ]
  go_wp2
  go_ret
  exact ⟨rfl, hb⟩
end Go.Proofs.YtphabkaiheplpaaGreatDoor
/- errors.As at an api.Fault, by contracts, over the errors that the program makes (none of them a Fault): it answers false and leaves all old memory. -/
set_option linter.unusedVariables false
set_option linter.unusedSimpArgs false
set_option maxRecDepth 100000
namespace Go.Proofs.YtphabkaiheplpaaGreatDoor
open Go.RowKit Go.Extern.Stop Go.Stop Go.Extern Go.Extern.Rtype

/-- The library's variable errors.errorType holds the type of error. -/
def ErrT (w : World) : Prop := w.cell? ⟨0, 0, none⟩ = some (.iface 174 (.agg #[.pointer (some ⟨7, 36, none⟩)]))
theorem ErrT.below {w w1 : World} (h : ErrT w) (hb : Below w.heap.size w w1) : ErrT w1 := bl_cell hb h
theorem ErrT.pos {w : World} (h : ErrT w) : 0 < w.heap.size := World.block_lt_of_cell? w ⟨0, 0, none⟩ h

theorem rlm (z : Sem Value) (f : TypeId → Addr → Nat → Nat → Sem Value) (v : Value) :
    ReflectliteValue.method z f #[v] = (do match ← ReflectliteValue.parts v with | none => z | some (t, a, fl) => f t a fl (fl % 32)) := rfl
theorem ex_valueOf (args : Array Value) (w : World) : (callFunc 111 args).run Tryz.prog w = ((ReflectliteValue.unpack (args.getD 0 (.tuple #[]))).run Tryz.prog w).andThen fun v w' => .ok (.value v) w' :=
  run_callFunc_extern (e := fun args => ReflectliteValue.unpack (args.getD 0 (.tuple #[]))) Tryz.func111 (by kernel_rfl) (by kernel_rfl) (by kernel_rfl) (by kernel_rfl) args w
theorem ex_type (args : Array Value) (w : World) : (callFunc 112 args).run Tryz.prog w = ((ReflectliteValue.methodAny (ReflectliteValue.valueError "reflectlite.Value.Type" 0) (fun t _ _ _ => ReflectliteType.toType t) args).run Tryz.prog w).andThen fun v w' => .ok (.value v) w' :=
  run_callFunc_extern Tryz.func112 (by kernel_rfl) (by kernel_rfl) (by kernel_rfl) (by kernel_rfl) args w
theorem ex_isNil (args : Array Value) (w : World) : (callFunc 113 args).run Tryz.prog w = ((ReflectliteValue.method (ReflectliteValue.valueError "reflectlite.Value.IsNil" 0) ReflectliteValue.isNil args).run Tryz.prog w).andThen fun v w' => .ok (.value v) w' :=
  run_callFunc_extern Tryz.func113 (by kernel_rfl) (by kernel_rfl) (by kernel_rfl) (by kernel_rfl) args w
theorem ex_kind (args : Array Value) (w : World) : (callFunc 204 args).run Tryz.prog w = ((ReflectliteType.abiMethod (fun t => do pure (.int .u8 (← kind t))) args).run Tryz.prog w).andThen fun v w' => .ok (.value v) w' :=
  run_callFunc_extern Tryz.func204 (by kernel_rfl) (by kernel_rfl) (by kernel_rfl) (by kernel_rfl) args w
theorem ex_elem (args : Array Value) (w : World) : (callFunc 217 args).run Tryz.prog w = ((ReflectliteType.method ReflectliteType.elem args).run Tryz.prog w).andThen fun v w' => .ok (.value v) w' :=
  run_callFunc_extern Tryz.func217 (by kernel_rfl) (by kernel_rfl) (by kernel_rfl) (by kernel_rfl) args w
theorem ex_implements (args : Array Value) (w : World) : (callFunc 218 args).run Tryz.prog w = ((ReflectliteType.relation "Implements" ReflectliteType.implements_ args).run Tryz.prog w).andThen fun v w' => .ok (.value v) w' :=
  run_callFunc_extern Tryz.func218 (by kernel_rfl) (by kernel_rfl) (by kernel_rfl) (by kernel_rfl) args w
theorem ex_assignable (args : Array Value) (w : World) : (callFunc 215 args).run Tryz.prog w = ((ReflectliteType.relation "AssignableTo" ReflectliteType.assignableTo args).run Tryz.prog w).andThen fun v w' => .ok (.value v) w' :=
  run_callFunc_extern Tryz.func215 (by kernel_rfl) (by kernel_rfl) (by kernel_rfl) (by kernel_rfl) args w

theorem fa_valueOf (t : Addr) (w : World) : (callFunc 111 #[.iface 153 (.pointer (some t))]).run Tryz.prog w
    = .ok (.value (.agg #[.pointer (some ⟨7, 153, none⟩), .pointer (some ⟨w.heap.size, 0, none⟩), .int .u64 150])) (w.alloc (.cells #[.pointer (some t)] 153)) := by
  rw [ex_valueOf]
  kernel_rfl
theorem fa_type (a : Addr) (w : World) : (callFunc 112 #[.agg #[.pointer (some ⟨7, 153, none⟩), .pointer (some a), .int .u64 150]]).run Tryz.prog w
    = .ok (.value (.iface 174 (.agg #[.pointer (some ⟨7, 153, none⟩)]))) w := by
  rw [ex_type]
  kernel_rfl
theorem fa_methodKind (h : Value) (w : World) : (Go.method 396 174 (.agg #[h]) "Kind").run Tryz.prog w = .ok (204, h) w := by kernel_rfl
theorem fa_methodElem (h : Value) (w : World) : (Go.method 396 174 (.agg #[h]) "Elem").run Tryz.prog w = .ok (217, .agg #[h]) w := by kernel_rfl
theorem fa_methodImplements (h : Value) (w : World) : (Go.method 396 174 (.agg #[h]) "Implements").run Tryz.prog w = .ok (218, .agg #[h]) w := by kernel_rfl
theorem fa_methodAssignableTo (h : Value) (w : World) : (Go.method 396 174 (.agg #[h]) "AssignableTo").run Tryz.prog w = .ok (215, .agg #[h]) w := by kernel_rfl
theorem fa_kindP (w : World) : (callFunc 204 #[.pointer (some ⟨7, 153, none⟩)]).run Tryz.prog w = .ok (.value (.int .u8 22)) w := by
  rw [ex_kind]
  kernel_rfl
theorem fa_kindF (w : World) : (callFunc 204 #[.pointer (some ⟨7, 150, none⟩)]).run Tryz.prog w = .ok (.value (.int .u8 25)) w := by
  rw [ex_kind]
  kernel_rfl
theorem fa_parts (a : Addr) (w : World) : (ReflectliteValue.parts (.agg #[.pointer (some ⟨7, 153, none⟩), .pointer (some a), .int .u64 150])).run Tryz.prog w = .ok (some (153, a, 150)) w := by kernel_rfl
theorem fa_isNil (a p : Addr) (w : World) (ha : w.cell? a = some (.pointer (some p))) :
    (callFunc 113 #[.agg #[.pointer (some ⟨7, 153, none⟩), .pointer (some a), .int .u64 150]]).run Tryz.prog w = .ok (.value (.bool false)) w := by
  rw [ex_isNil, rlm]
  simp only [Sem.run_bind, fa_parts, Result.andThen]
  simp [ReflectliteValue.isNil, loadVar, isAgg, underlying, Tryz.underlying153, ha, Result.andThen]
theorem fa_elem (w : World) : (callFunc 217 #[.agg #[.pointer (some ⟨7, 153, none⟩)]]).run Tryz.prog w = .ok (.value (.iface 174 (.agg #[.pointer (some ⟨7, 150, none⟩)]))) w := by
  rw [ex_elem]
  kernel_rfl
theorem fa_implements (w : World) : (callFunc 218 #[.agg #[.pointer (some ⟨7, 150, none⟩)], .iface 174 (.agg #[.pointer (some ⟨7, 36, none⟩)])]).run Tryz.prog w = .ok (.value (.bool true)) w := by
  rw [ex_implements]
  kernel_rfl
theorem er_assignable (w : World) : (callFunc 215 #[.agg #[.pointer (some ⟨7, 84, none⟩)], .iface 174 (.agg #[.pointer (some ⟨7, 150, none⟩)])]).run Tryz.prog w = .ok (.value (.bool false)) w := by
  rw [ex_assignable]
  kernel_rfl
theorem wr_codes_assignable (w : World) : (callFunc 215 #[.agg #[.pointer (some ⟨7, 196, none⟩)], .iface 174 (.agg #[.pointer (some ⟨7, 150, none⟩)])]).run Tryz.prog w = .ok (.value (.bool false)) w := by
  rw [ex_assignable]
  kernel_rfl
theorem wr_mtch_assignable (w : World) : (callFunc 215 #[.agg #[.pointer (some ⟨7, 87, none⟩)], .iface 174 (.agg #[.pointer (some ⟨7, 150, none⟩)])]).run Tryz.prog w = .ok (.value (.bool false)) w := by
  rw [ex_assignable]
  kernel_rfl
theorem wr_notice_assignable (w : World) : (callFunc 215 #[.agg #[.pointer (some ⟨7, 136, none⟩)], .iface 174 (.agg #[.pointer (some ⟨7, 150, none⟩)])]).run Tryz.prog w = .ok (.value (.bool false)) w := by
  rw [ex_assignable]
  kernel_rfl

/-- errors.as of an api.Errno: false. -/
theorem as0_no (n : Int) (v : Value) (w : World) (c0 c1 c2 : Value) :
    Calls Tryz.prog 114 #[.iface 84 (.int .i64 n), v, .agg #[c0, c1, c2], .iface 174 (.agg #[.pointer (some ⟨7, 150, none⟩)])] w fun e w' => e = .returned (.bool false) ∧ Below w.heap.size w w' := by
  have tT := er_typeOf
  have mA := fa_methodAssignableTo
  have aA := er_assignable
  have nI := er_noAs
  have nU := er_noUnwrap
  have nV := er_noUnwraps

  go_enter Tryz.func114, Tryz.ntmps114
  go_wp2
  refine wp_loop_rounds 1 ?_
  rw [rounds_succ]
  go_wp2
  go_ret
  exact ⟨rfl, by repeat (first | exact bl_refl _ | apply bl_alloc | apply bl_drew)⟩
theorem as0_codes (s : ByteArray) (n : Int) (v : Value) (w : World) (c0 c1 c2 : Value) :
    Calls Tryz.prog 114 #[.iface 196 (.agg #[.string s, .int .i64 n]), v, .agg #[c0, c1, c2], .iface 174 (.agg #[.pointer (some ⟨7, 150, none⟩)])] w fun e w' => e = .returned (.bool false) ∧ Below w.heap.size w w' := by
  have tT := er_typeOf
  have tW := wr_codes_typeOf
  have mA := fa_methodAssignableTo
  have aA := er_assignable
  have aW := wr_codes_assignable
  have nI := er_noAs
  have nU := er_noUnwrap
  have nV := er_noUnwraps
  have wI := wr_codes_noAs
  have wU := wr_codes_hasUnwrap
  have wM := wr_codes_method
  have hni : ∀ w, (binOp .eql 36 (.iface 84 (.int .i64 n)) .nilIface).run Tryz.prog w = .ok (.bool false) w := fun w => by first | kernel_rfl
  go_enter Tryz.func114, Tryz.ntmps114
  go_wp2
  refine wp_loop_rounds 2 ?_
  rw [rounds_succ]
  go_wp2_with (go_at_call 229; refine (wr_codes_Unwrap s n _).mono ?_; rintro e w1 ⟨rfl, hb⟩)
  rw [rounds_succ]
  go_wp2
  go_ret
  exact ⟨rfl, bl_then (by repeat (first | exact bl_refl _ | apply bl_alloc | apply bl_drew)) hb⟩
theorem as0_mtch (s : ByteArray) (n : Int) (v : Value) (w : World) (c0 c1 c2 : Value) :
    Calls Tryz.prog 114 #[.iface 87 (.agg #[.string s, .int .i64 n]), v, .agg #[c0, c1, c2], .iface 174 (.agg #[.pointer (some ⟨7, 150, none⟩)])] w fun e w' => e = .returned (.bool false) ∧ Below w.heap.size w w' := by
  have tT := er_typeOf
  have tW := wr_mtch_typeOf
  have mA := fa_methodAssignableTo
  have aA := er_assignable
  have aW := wr_mtch_assignable
  have nI := er_noAs
  have nU := er_noUnwrap
  have nV := er_noUnwraps
  have wI := wr_mtch_noAs
  have wU := wr_mtch_hasUnwrap
  have wM := wr_mtch_method
  have hni : ∀ w, (binOp .eql 36 (.iface 84 (.int .i64 n)) .nilIface).run Tryz.prog w = .ok (.bool false) w := fun w => by first | kernel_rfl
  go_enter Tryz.func114, Tryz.ntmps114
  go_wp2
  refine wp_loop_rounds 2 ?_
  rw [rounds_succ]
  go_wp2_with (go_at_call 209; refine (wr_mtch_Unwrap s n _).mono ?_; rintro e w1 ⟨rfl, hb⟩)
  rw [rounds_succ]
  go_wp2
  go_ret
  exact ⟨rfl, bl_then (by repeat (first | exact bl_refl _ | apply bl_alloc | apply bl_drew)) hb⟩
theorem as0_notice (s : ByteArray) (n : Int) (v : Value) (w : World) (c0 c1 c2 : Value) :
    Calls Tryz.prog 114 #[.iface 136 (.agg #[.string s, .int .i64 n]), v, .agg #[c0, c1, c2], .iface 174 (.agg #[.pointer (some ⟨7, 150, none⟩)])] w fun e w' => e = .returned (.bool false) ∧ Below w.heap.size w w' := by
  have tT := er_typeOf
  have tW := wr_notice_typeOf
  have mA := fa_methodAssignableTo
  have aA := er_assignable
  have aW := wr_notice_assignable
  have nI := er_noAs
  have nU := er_noUnwrap
  have nV := er_noUnwraps
  have wI := wr_notice_noAs
  have wU := wr_notice_hasUnwrap
  have wM := wr_notice_method
  have hni : ∀ w, (binOp .eql 36 (.iface 84 (.int .i64 n)) .nilIface).run Tryz.prog w = .ok (.bool false) w := fun w => by first | kernel_rfl
  go_enter Tryz.func114, Tryz.ntmps114
  go_wp2
  refine wp_loop_rounds 2 ?_
  rw [rounds_succ]
  go_wp2_with (go_at_call 211; refine (wr_notice_Unwrap s n _).mono ?_; rintro e w1 ⟨rfl, hb⟩)
  rw [rounds_succ]
  go_wp2
  go_ret
  exact ⟨rfl, bl_then (by repeat (first | exact bl_refl _ | apply bl_alloc | apply bl_drew)) hb⟩

/-- errors.As of an error that is no nil, by what errors.as answers. -/
theorem as_false (tE : TypeId) (vE : Value) (t : Addr) (w : World) (hg : ErrT w)
    (has : ∀ (c0 c1 c2 : Value) (W : World), Calls Tryz.prog 114 #[.iface tE vE, .iface 153 (.pointer (some t)), .agg #[c0, c1, c2], .iface 174 (.agg #[.pointer (some ⟨7, 150, none⟩)])] W fun e w' => e = .returned (.bool false) ∧ Below W.heap.size W w') :
    Calls Tryz.prog 75 #[.iface tE vE, .iface 153 (.pointer (some t))] w fun e w' => e = .returned (.bool false) ∧ Below w.heap.size w w' := by
  have f6 := fa_valueOf
  have f7 := fa_type
  have mK := fa_methodKind
  have mE := fa_methodElem
  have mI := fa_methodImplements
  have kP := fa_kindP
  have kF := fa_kindF
  have eF := fa_elem
  have iF := fa_implements
  have n8 := fa_isNil ⟨w.heap.size, 0, none⟩ t ((w.alloc (.cells #[.pointer (some t)] 153)).alloc (.cells #[.pointer (some ⟨7, 153, none⟩), .pointer (some ⟨w.heap.size, 0, none⟩), .int .u64 150] 186)) (by simp)
  have hlt := ErrT.pos hg
  have hg2 : ((w.alloc (.cells #[.pointer (some t)] 153)).alloc (.cells #[.pointer (some ⟨7, 153, none⟩), .pointer (some ⟨w.heap.size, 0, none⟩), .int .u64 150] 186)).cell? ⟨0, 0, none⟩ = some (.iface 174 (.agg #[.pointer (some ⟨7, 36, none⟩)])) :=
    (hg.below (bl_alloc (bl_alloc (bl_refl w) _) _))
  have hne : ∀ w, (binOp .eql 36 (.iface tE vE) .nilIface).run Tryz.prog w = .ok (.bool false) w := fun w => by kernel_rfl
  clear hg
  go_enter Tryz.func75, Tryz.ntmps75
  go_wp2_with (go_at_call 114; refine (has _ _ _ _).mono ?_; rintro e w1 ⟨rfl, hb⟩)
  go_ret
  exact ⟨rfl, bl_then (by repeat (first | exact bl_refl _ | apply bl_alloc | apply bl_drew)) hb⟩
end Go.Proofs.YtphabkaiheplpaaGreatDoor
