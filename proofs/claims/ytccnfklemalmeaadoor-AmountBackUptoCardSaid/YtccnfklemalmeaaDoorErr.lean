/- errors.Is, errors.As and the kit's Num and Plain, by contracts, over the errors that the program makes: nil, an api.Errno, a struct that wraps one. -/
import Derived.Test.YtccnfklemalmeaaDoorProg
import Derived.WalkKit
import Derived.LaidEql
import Derived.Stop.Asserts
import Derived.RowKitTokens
import Derived.WalkLawsBesides
import Derived.WideLaws
set_option linter.unusedVariables false
set_option linter.unusedSimpArgs false
set_option maxRecDepth 100000
namespace Go.Proofs.YtccnfklemalmeaaDoor
open Go.RowKit Go.Extern.Stop Go.Stop Go.Extern Go.Extern.Rtype

theorem run_equalIn_iface_int {P : Program} (w : World) (d : Nat) {ti tn : TypeId} {ms : Array (String × TypeId)} {i : TypeInfo} {k : IntKind} (a b : Int)
    (hi : P.underlying ti = some (.interface ms)) (hn : P.underlying tn = some (.int k)) (hinfo : P.info? tn = some i) (hcomp : i.comparable = true) :
    (Op.equalIn (d + 2) ti (.iface tn (.int k a)) (.iface tn (.int k b))).run P w = .ok (a == b) w := by
  simp [Op.equalIn, run_underlying hi, run_underlying hn, typeInfo, hinfo, hcomp]
theorem run_eql_iface_int {P : Program} (w : World) {ti tn : TypeId} {ms : Array (String × TypeId)} {i : TypeInfo} {k : IntKind} (a b : Int)
    (hi : P.underlying ti = some (.interface ms)) (hn : P.underlying tn = some (.int k)) (hinfo : P.info? tn = some i) (hcomp : i.comparable = true) :
    (binOp .eql ti (.iface tn (.int k a)) (.iface tn (.int k b))).run P w = .ok (.bool (a == b)) w := by
  simp only [binOp]
  simp [Op.equal, Op.maxDepth, run_equalIn_iface_int w 9998 a b hi hn hinfo hcomp]

theorem bl_refl (w : World) : Below w.heap.size w w := Below.refl _ _
theorem bl_alloc {w W : World} (h : Below w.heap.size w W) (o : Obj) : Below w.heap.size w (W.alloc o) := h.alloc h.size o
theorem bl_drew {B : Nat} {w W : World} (h : Below B w W) : Below B w W.drew := ⟨h.os, h.tape, h.output, h.size, h.block⟩
theorem bl_drewN {B : Nat} {w W : World} (h : Below B w W) (n : Nat) : Below B w (W.drewN n) := ⟨h.os, h.tape, h.output, h.size, h.block⟩
theorem bl_then {w w1 w2 : World} (h : Below w.heap.size w w1) (k : Below w1.heap.size w1 w2) : Below w.heap.size w w2 :=
  h.trans ⟨k.os, k.tape, k.output, k.size, fun i hi => k.block i (Nat.lt_of_lt_of_le hi h.size)⟩
theorem bl_cell {w w1 : World} (h : Below w.heap.size w w1) {a : Addr} {v : Value} (hc : w.cell? a = some v) : w1.cell? a = some v := (h.cell (World.block_lt_of_cell? w a hc)).trans hc

/-! ### closed facts on api.Errno -/
theorem ex_typeOf (args : Array Value) (w : World) : (callFunc 108 args).run Tryd.prog w = ((ReflectliteType.typeOf args).run Tryd.prog w).andThen fun v w' => .ok (.value v) w' :=
  run_callFunc_extern Tryd.func108 (by kernel_rfl) (by kernel_rfl) (by kernel_rfl) (by kernel_rfl) args w
theorem ex_comparable (args : Array Value) (w : World) : (callFunc 188 args).run Tryd.prog w = ((ReflectliteType.method (fun t => do noPackHeld "Comparable" t; pure (.bool (← typeInfo t).comparable)) args).run Tryd.prog w).andThen fun v w' => .ok (.value v) w' :=
  run_callFunc_extern Tryd.func188 (by kernel_rfl) (by kernel_rfl) (by kernel_rfl) (by kernel_rfl) args w

theorem er_comp : (Tryd.prog.info? 95).map (·.comparable) = some true := by kernel_rfl
theorem er_eq (a b : Int) (w : World) : (binOp .eql 25 (.iface 95 (.int .i64 a)) (.iface 95 (.int .i64 b))).run Tryd.prog w = .ok (.bool (a == b)) w := by
  obtain ⟨i, hi, hcmp⟩ := Option.map_eq_some_iff.1 er_comp
  exact run_eql_iface_int w a b Tryd.underlying25 Tryd.underlying95 hi hcmp
theorem er_typeOf (v : Value) (w : World) : (callFunc 108 #[.iface 95 v]).run Tryd.prog w = .ok (.value (.iface 178 (.agg #[.pointer (some ⟨9, 95, none⟩)]))) w := by
  rw [ex_typeOf]
  kernel_rfl
theorem er_comparable (w : World) : (callFunc 188 #[.agg #[.pointer (some ⟨9, 95, none⟩)]]).run Tryd.prog w = .ok (.value (.bool true)) w := by
  rw [ex_comparable]
  kernel_rfl
theorem er_methodComparable (v : Value) (w : World) : (Go.method 363 178 v "Comparable").run Tryd.prog w = .ok (188, v) w := by kernel_rfl
theorem er_noIs (v : Value) (xT : TypeId) (w : World) : (Instr.typeAssert (.iface 95 v) xT 203 true).run Tryd.prog w = .ok (.tuple #[.nilIface, .bool false]) w := run_typeAssert_lacksB Tryd.underlying203 (by kernel_rfl) (by kernel_rfl) v xT w
theorem er_noUnwrap (v : Value) (xT : TypeId) (w : World) : (Instr.typeAssert (.iface 95 v) xT 185 true).run Tryd.prog w = .ok (.tuple #[.nilIface, .bool false]) w := run_typeAssert_lacksB Tryd.underlying185 (by kernel_rfl) (by kernel_rfl) v xT w
theorem er_noUnwraps (v : Value) (xT : TypeId) (w : World) : (Instr.typeAssert (.iface 95 v) xT 187 true).run Tryd.prog w = .ok (.tuple #[.nilIface, .bool false]) w := run_typeAssert_lacksB Tryd.underlying187 (by kernel_rfl) (by kernel_rfl) v xT w
theorem er_noAs (v : Value) (xT : TypeId) (w : World) : (Instr.typeAssert (.iface 95 v) xT 182 true).run Tryd.prog w = .ok (.tuple #[.nilIface, .bool false]) w := run_typeAssert_lacksB Tryd.underlying182 (by kernel_rfl) (by kernel_rfl) v xT w
theorem is_nil (m : Int) (w : World) :
    Calls Tryd.prog 78 #[.nilIface, .iface 95 (.int .i64 m)] w fun e w' => e = .returned (.bool false) ∧ w = w' := by
  have hn := run_eql_iface_nil_left (P := Tryd.prog) w 95 (.int .i64 m) Tryd.underlying25
  go_enter Tryd.func78, Tryd.ntmps78
  go_wp2
  go_ret
  exact ⟨rfl, rfl⟩

theorem is_no_yes (n m : Int) (w : World) (h : n = m) :
    Calls Tryd.prog 78 #[.iface 95 (.int .i64 n), .iface 95 (.int .i64 m)] w fun e w' => e = .returned (.bool true) ∧ w = w' := by
  have tT := er_typeOf
  have cT := er_comparable
  have mR := er_methodComparable
  have nI := er_noIs
  have nU := er_noUnwrap
  have nV := er_noUnwraps
  have heq : ∀ w, (binOp .eql 25 (.iface 95 (.int .i64 n)) (.iface 95 (.int .i64 m))).run Tryd.prog w = .ok (.bool true) w := fun w => by rw [er_eq]; simp [h]
  clear h
  go_enter Tryd.func78, Tryd.ntmps78
  go_wp2
  refine wp_loop_rounds 1 ?_
  rw [rounds_succ]
  go_wp2
  go_ret
  exact ⟨rfl, rfl⟩
theorem is_no_no (n m : Int) (w : World) (h : n ≠ m) :
    Calls Tryd.prog 78 #[.iface 95 (.int .i64 n), .iface 95 (.int .i64 m)] w fun e w' => e = .returned (.bool false) ∧ w = w' := by
  have tT := er_typeOf
  have cT := er_comparable
  have mR := er_methodComparable
  have nI := er_noIs
  have nU := er_noUnwrap
  have nV := er_noUnwraps
  have heq : ∀ w, (binOp .eql 25 (.iface 95 (.int .i64 n)) (.iface 95 (.int .i64 m))).run Tryd.prog w = .ok (.bool false) w := fun w => by rw [er_eq]; simp [h]
  clear h
  go_enter Tryd.func78, Tryd.ntmps78
  go_wp2
  refine wp_loop_rounds 1 ?_
  rw [rounds_succ]
  go_wp2
  go_ret
  exact ⟨rfl, rfl⟩

/-! ### structs that wrap a number -/
theorem wr_amount_Unwrap (s : ByteArray) (n : Int) (w : World) : Calls Tryd.prog 177 #[.agg #[.string s, .int .i64 n]] w fun e w' => e = .returned (.iface 95 (.int .i64 n)) ∧ Below w.heap.size w w' := by
  go_enter Tryd.func177, Tryd.ntmps177
  go_wp2
  go_ret
  exact ⟨rfl, bl_alloc (bl_refl _) _⟩
theorem wr_amount_method (v : Value) (w : World) : (Go.method 363 97 v "Unwrap").run Tryd.prog w = .ok (177, v) w := by kernel_rfl
theorem wr_amount_typeOf (v : Value) (w : World) : (callFunc 108 #[.iface 97 v]).run Tryd.prog w = .ok (.value (.iface 178 (.agg #[.pointer (some ⟨9, 97, none⟩)]))) w := by
  rw [ex_typeOf]
  kernel_rfl
theorem wr_amount_noIs (v : Value) (xT : TypeId) (w : World) : (Instr.typeAssert (.iface 97 v) xT 203 true).run Tryd.prog w = .ok (.tuple #[.nilIface, .bool false]) w := run_typeAssert_lacksB Tryd.underlying203 (by kernel_rfl) (by kernel_rfl) v xT w
theorem wr_amount_noUnwraps (v : Value) (xT : TypeId) (w : World) : (Instr.typeAssert (.iface 97 v) xT 187 true).run Tryd.prog w = .ok (.tuple #[.nilIface, .bool false]) w := run_typeAssert_lacksB Tryd.underlying187 (by kernel_rfl) (by kernel_rfl) v xT w
theorem wr_amount_noAs (v : Value) (xT : TypeId) (w : World) : (Instr.typeAssert (.iface 97 v) xT 182 true).run Tryd.prog w = .ok (.tuple #[.nilIface, .bool false]) w := run_typeAssert_lacksB Tryd.underlying182 (by kernel_rfl) (by kernel_rfl) v xT w
theorem wr_amount_hasUnwrap (v : Value) (xT : TypeId) (w : World) : (Instr.typeAssert (.iface 97 v) xT 185 true).run Tryd.prog w = .ok (.tuple #[.iface 97 v, .bool true]) w := run_typeAssert_hasB Tryd.underlying185 (by kernel_rfl) v xT w
theorem is_amount_yes (s : ByteArray) (n m : Int) (w : World) (h : n = m) :
    Calls Tryd.prog 78 #[.iface 97 (.agg #[.string s, .int .i64 n]), .iface 95 (.int .i64 m)] w fun e w' => e = .returned (.bool true) ∧ Below w.heap.size w w' := by
  have tT := er_typeOf
  have cT := er_comparable
  have mR := er_methodComparable
  have nI := er_noIs
  have nU := er_noUnwrap
  have nV := er_noUnwraps
  have wI := wr_amount_noIs
  have wU := wr_amount_hasUnwrap
  have wM := wr_amount_method
  have heq : ∀ w, (binOp .eql 25 (.iface 95 (.int .i64 n)) (.iface 95 (.int .i64 m))).run Tryd.prog w = .ok (.bool true) w := fun w => by rw [er_eq]; simp [h]
  have hty : ∀ w, (binOp .eql 25 (.iface 97 (.agg #[.string s, .int .i64 n])) (.iface 95 (.int .i64 m))).run Tryd.prog w = .ok (.bool false) w := fun w => run_eql_iface_types (P := Tryd.prog) _ _ _ _ Tryd.underlying25 (by decide) w
  have hni : ∀ w, (binOp .eql 25 (.iface 95 (.int .i64 n)) .nilIface).run Tryd.prog w = .ok (.bool false) w := fun w => by first | kernel_rfl
  clear h
  go_enter Tryd.func78, Tryd.ntmps78
  go_wp2
  refine wp_loop_rounds 2 ?_
  rw [rounds_succ]
  go_wp2_with (go_at_call 177; refine (wr_amount_Unwrap s n _).mono ?_; rintro e w1 ⟨rfl, hb⟩)
  rw [rounds_succ]
  go_wp2
  go_ret
  exact ⟨rfl, hb⟩
theorem is_amount_no (s : ByteArray) (n m : Int) (w : World) (h : n ≠ m) :
    Calls Tryd.prog 78 #[.iface 97 (.agg #[.string s, .int .i64 n]), .iface 95 (.int .i64 m)] w fun e w' => e = .returned (.bool false) ∧ Below w.heap.size w w' := by
  have tT := er_typeOf
  have cT := er_comparable
  have mR := er_methodComparable
  have nI := er_noIs
  have nU := er_noUnwrap
  have nV := er_noUnwraps
  have wI := wr_amount_noIs
  have wU := wr_amount_hasUnwrap
  have wM := wr_amount_method
  have heq : ∀ w, (binOp .eql 25 (.iface 95 (.int .i64 n)) (.iface 95 (.int .i64 m))).run Tryd.prog w = .ok (.bool false) w := fun w => by rw [er_eq]; simp [h]
  have hty : ∀ w, (binOp .eql 25 (.iface 97 (.agg #[.string s, .int .i64 n])) (.iface 95 (.int .i64 m))).run Tryd.prog w = .ok (.bool false) w := fun w => run_eql_iface_types (P := Tryd.prog) _ _ _ _ Tryd.underlying25 (by decide) w
  have hni : ∀ w, (binOp .eql 25 (.iface 95 (.int .i64 n)) .nilIface).run Tryd.prog w = .ok (.bool false) w := fun w => by first | kernel_rfl
  clear h
  go_enter Tryd.func78, Tryd.ntmps78
  go_wp2
  refine wp_loop_rounds 2 ?_
  rw [rounds_succ]
  go_wp2_with (go_at_call 177; refine (wr_amount_Unwrap s n _).mono ?_; rintro e w1 ⟨rfl, hb⟩)
  rw [rounds_succ]
  go_wp2
  go_ret
  exact ⟨rfl, hb⟩
theorem wr_codes_Unwrap (s : ByteArray) (n : Int) (w : World) : Calls Tryd.prog 198 #[.agg #[.string s, .int .i64 n]] w fun e w' => e = .returned (.iface 95 (.int .i64 n)) ∧ Below w.heap.size w w' := by
  go_enter Tryd.func198, Tryd.ntmps198
  go_wp2
  go_ret
  exact ⟨rfl, bl_alloc (bl_refl _) _⟩
theorem wr_codes_method (v : Value) (w : World) : (Go.method 363 210 v "Unwrap").run Tryd.prog w = .ok (198, v) w := by kernel_rfl
theorem wr_codes_typeOf (v : Value) (w : World) : (callFunc 108 #[.iface 210 v]).run Tryd.prog w = .ok (.value (.iface 178 (.agg #[.pointer (some ⟨9, 210, none⟩)]))) w := by
  rw [ex_typeOf]
  kernel_rfl
theorem wr_codes_noIs (v : Value) (xT : TypeId) (w : World) : (Instr.typeAssert (.iface 210 v) xT 203 true).run Tryd.prog w = .ok (.tuple #[.nilIface, .bool false]) w := run_typeAssert_lacksB Tryd.underlying203 (by kernel_rfl) (by kernel_rfl) v xT w
theorem wr_codes_noUnwraps (v : Value) (xT : TypeId) (w : World) : (Instr.typeAssert (.iface 210 v) xT 187 true).run Tryd.prog w = .ok (.tuple #[.nilIface, .bool false]) w := run_typeAssert_lacksB Tryd.underlying187 (by kernel_rfl) (by kernel_rfl) v xT w
theorem wr_codes_noAs (v : Value) (xT : TypeId) (w : World) : (Instr.typeAssert (.iface 210 v) xT 182 true).run Tryd.prog w = .ok (.tuple #[.nilIface, .bool false]) w := run_typeAssert_lacksB Tryd.underlying182 (by kernel_rfl) (by kernel_rfl) v xT w
theorem wr_codes_hasUnwrap (v : Value) (xT : TypeId) (w : World) : (Instr.typeAssert (.iface 210 v) xT 185 true).run Tryd.prog w = .ok (.tuple #[.iface 210 v, .bool true]) w := run_typeAssert_hasB Tryd.underlying185 (by kernel_rfl) v xT w
theorem is_codes_yes (s : ByteArray) (n m : Int) (w : World) (h : n = m) :
    Calls Tryd.prog 78 #[.iface 210 (.agg #[.string s, .int .i64 n]), .iface 95 (.int .i64 m)] w fun e w' => e = .returned (.bool true) ∧ Below w.heap.size w w' := by
  have tT := er_typeOf
  have cT := er_comparable
  have mR := er_methodComparable
  have nI := er_noIs
  have nU := er_noUnwrap
  have nV := er_noUnwraps
  have wI := wr_codes_noIs
  have wU := wr_codes_hasUnwrap
  have wM := wr_codes_method
  have heq : ∀ w, (binOp .eql 25 (.iface 95 (.int .i64 n)) (.iface 95 (.int .i64 m))).run Tryd.prog w = .ok (.bool true) w := fun w => by rw [er_eq]; simp [h]
  have hty : ∀ w, (binOp .eql 25 (.iface 210 (.agg #[.string s, .int .i64 n])) (.iface 95 (.int .i64 m))).run Tryd.prog w = .ok (.bool false) w := fun w => run_eql_iface_types (P := Tryd.prog) _ _ _ _ Tryd.underlying25 (by decide) w
  have hni : ∀ w, (binOp .eql 25 (.iface 95 (.int .i64 n)) .nilIface).run Tryd.prog w = .ok (.bool false) w := fun w => by first | kernel_rfl
  clear h
  go_enter Tryd.func78, Tryd.ntmps78
  go_wp2
  refine wp_loop_rounds 2 ?_
  rw [rounds_succ]
  go_wp2_with (go_at_call 198; refine (wr_codes_Unwrap s n _).mono ?_; rintro e w1 ⟨rfl, hb⟩)
  rw [rounds_succ]
  go_wp2
  go_ret
  exact ⟨rfl, hb⟩
theorem is_codes_no (s : ByteArray) (n m : Int) (w : World) (h : n ≠ m) :
    Calls Tryd.prog 78 #[.iface 210 (.agg #[.string s, .int .i64 n]), .iface 95 (.int .i64 m)] w fun e w' => e = .returned (.bool false) ∧ Below w.heap.size w w' := by
  have tT := er_typeOf
  have cT := er_comparable
  have mR := er_methodComparable
  have nI := er_noIs
  have nU := er_noUnwrap
  have nV := er_noUnwraps
  have wI := wr_codes_noIs
  have wU := wr_codes_hasUnwrap
  have wM := wr_codes_method
  have heq : ∀ w, (binOp .eql 25 (.iface 95 (.int .i64 n)) (.iface 95 (.int .i64 m))).run Tryd.prog w = .ok (.bool false) w := fun w => by rw [er_eq]; simp [h]
  have hty : ∀ w, (binOp .eql 25 (.iface 210 (.agg #[.string s, .int .i64 n])) (.iface 95 (.int .i64 m))).run Tryd.prog w = .ok (.bool false) w := fun w => run_eql_iface_types (P := Tryd.prog) _ _ _ _ Tryd.underlying25 (by decide) w
  have hni : ∀ w, (binOp .eql 25 (.iface 95 (.int .i64 n)) .nilIface).run Tryd.prog w = .ok (.bool false) w := fun w => by first | kernel_rfl
  clear h
  go_enter Tryd.func78, Tryd.ntmps78
  go_wp2
  refine wp_loop_rounds 2 ?_
  rw [rounds_succ]
  go_wp2_with (go_at_call 198; refine (wr_codes_Unwrap s n _).mono ?_; rintro e w1 ⟨rfl, hb⟩)
  rw [rounds_succ]
  go_wp2
  go_ret
  exact ⟨rfl, hb⟩
theorem wr_desk_Unwrap (s : ByteArray) (n : Int) (w : World) : Calls Tryd.prog 181 #[.agg #[.string s, .int .i64 n]] w fun e w' => e = .returned (.iface 95 (.int .i64 n)) ∧ Below w.heap.size w w' := by
  go_enter Tryd.func181, Tryd.ntmps181
  go_wp2
  go_ret
  exact ⟨rfl, bl_alloc (bl_refl _) _⟩
theorem wr_desk_method (v : Value) (w : World) : (Go.method 363 117 v "Unwrap").run Tryd.prog w = .ok (181, v) w := by kernel_rfl
theorem wr_desk_typeOf (v : Value) (w : World) : (callFunc 108 #[.iface 117 v]).run Tryd.prog w = .ok (.value (.iface 178 (.agg #[.pointer (some ⟨9, 117, none⟩)]))) w := by
  rw [ex_typeOf]
  kernel_rfl
theorem wr_desk_noIs (v : Value) (xT : TypeId) (w : World) : (Instr.typeAssert (.iface 117 v) xT 203 true).run Tryd.prog w = .ok (.tuple #[.nilIface, .bool false]) w := run_typeAssert_lacksB Tryd.underlying203 (by kernel_rfl) (by kernel_rfl) v xT w
theorem wr_desk_noUnwraps (v : Value) (xT : TypeId) (w : World) : (Instr.typeAssert (.iface 117 v) xT 187 true).run Tryd.prog w = .ok (.tuple #[.nilIface, .bool false]) w := run_typeAssert_lacksB Tryd.underlying187 (by kernel_rfl) (by kernel_rfl) v xT w
theorem wr_desk_noAs (v : Value) (xT : TypeId) (w : World) : (Instr.typeAssert (.iface 117 v) xT 182 true).run Tryd.prog w = .ok (.tuple #[.nilIface, .bool false]) w := run_typeAssert_lacksB Tryd.underlying182 (by kernel_rfl) (by kernel_rfl) v xT w
theorem wr_desk_hasUnwrap (v : Value) (xT : TypeId) (w : World) : (Instr.typeAssert (.iface 117 v) xT 185 true).run Tryd.prog w = .ok (.tuple #[.iface 117 v, .bool true]) w := run_typeAssert_hasB Tryd.underlying185 (by kernel_rfl) v xT w
theorem is_desk_yes (s : ByteArray) (n m : Int) (w : World) (h : n = m) :
    Calls Tryd.prog 78 #[.iface 117 (.agg #[.string s, .int .i64 n]), .iface 95 (.int .i64 m)] w fun e w' => e = .returned (.bool true) ∧ Below w.heap.size w w' := by
  have tT := er_typeOf
  have cT := er_comparable
  have mR := er_methodComparable
  have nI := er_noIs
  have nU := er_noUnwrap
  have nV := er_noUnwraps
  have wI := wr_desk_noIs
  have wU := wr_desk_hasUnwrap
  have wM := wr_desk_method
  have heq : ∀ w, (binOp .eql 25 (.iface 95 (.int .i64 n)) (.iface 95 (.int .i64 m))).run Tryd.prog w = .ok (.bool true) w := fun w => by rw [er_eq]; simp [h]
  have hty : ∀ w, (binOp .eql 25 (.iface 117 (.agg #[.string s, .int .i64 n])) (.iface 95 (.int .i64 m))).run Tryd.prog w = .ok (.bool false) w := fun w => run_eql_iface_types (P := Tryd.prog) _ _ _ _ Tryd.underlying25 (by decide) w
  have hni : ∀ w, (binOp .eql 25 (.iface 95 (.int .i64 n)) .nilIface).run Tryd.prog w = .ok (.bool false) w := fun w => by first | kernel_rfl
  clear h
  go_enter Tryd.func78, Tryd.ntmps78
  go_wp2
  refine wp_loop_rounds 2 ?_
  rw [rounds_succ]
  go_wp2_with (go_at_call 181; refine (wr_desk_Unwrap s n _).mono ?_; rintro e w1 ⟨rfl, hb⟩)
  rw [rounds_succ]
  go_wp2
  go_ret
  exact ⟨rfl, hb⟩
theorem is_desk_no (s : ByteArray) (n m : Int) (w : World) (h : n ≠ m) :
    Calls Tryd.prog 78 #[.iface 117 (.agg #[.string s, .int .i64 n]), .iface 95 (.int .i64 m)] w fun e w' => e = .returned (.bool false) ∧ Below w.heap.size w w' := by
  have tT := er_typeOf
  have cT := er_comparable
  have mR := er_methodComparable
  have nI := er_noIs
  have nU := er_noUnwrap
  have nV := er_noUnwraps
  have wI := wr_desk_noIs
  have wU := wr_desk_hasUnwrap
  have wM := wr_desk_method
  have heq : ∀ w, (binOp .eql 25 (.iface 95 (.int .i64 n)) (.iface 95 (.int .i64 m))).run Tryd.prog w = .ok (.bool false) w := fun w => by rw [er_eq]; simp [h]
  have hty : ∀ w, (binOp .eql 25 (.iface 117 (.agg #[.string s, .int .i64 n])) (.iface 95 (.int .i64 m))).run Tryd.prog w = .ok (.bool false) w := fun w => run_eql_iface_types (P := Tryd.prog) _ _ _ _ Tryd.underlying25 (by decide) w
  have hni : ∀ w, (binOp .eql 25 (.iface 95 (.int .i64 n)) .nilIface).run Tryd.prog w = .ok (.bool false) w := fun w => by first | kernel_rfl
  clear h
  go_enter Tryd.func78, Tryd.ntmps78
  go_wp2
  refine wp_loop_rounds 2 ?_
  rw [rounds_succ]
  go_wp2_with (go_at_call 181; refine (wr_desk_Unwrap s n _).mono ?_; rintro e w1 ⟨rfl, hb⟩)
  rw [rounds_succ]
  go_wp2
  go_ret
  exact ⟨rfl, hb⟩
end Go.Proofs.YtccnfklemalmeaaDoor
