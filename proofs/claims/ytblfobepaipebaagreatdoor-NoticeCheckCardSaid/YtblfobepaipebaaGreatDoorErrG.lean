/- errors.Is, errors.As and the kit's Num and Plain, by contracts, over the errors that the program makes: nil, an api.Errno, a struct that wraps one. -/
import Derived.Test.YtblfobepaipebaaGreatDoorGerr
import Derived.WalkKit
import Derived.LaidEql
import Derived.Stop.Asserts
import Derived.RowKitTokens
import Derived.WalkLawsBesides
import Derived.WideLaws
set_option linter.unusedVariables false
set_option linter.unusedSimpArgs false
set_option maxRecDepth 100000
namespace Go.Proofs.YtblfobepaipebaaGreatDoor
open Go.RowKit Go.Extern.Stop Go.Stop Go.Extern Go.Extern.Rtype

theorem run_equalIn_iface_int {P : Program} (w : World) (d : Nat) {ti tn : TypeId} {ms : Array (String × TypeId)} {i : TypeInfo} {k : IntKind} (a b : Int)
    (hi : P.underlying ti = some (.interface ms)) (hn : P.underlying tn = some (.int k)) (hinfo : P.info? tn = some i) (hcomp : i.comparable = true) :
    (Op.equalIn (d + 2) ti (.iface tn (.int k a)) (.iface tn (.int k b))).run P w = .ok (a == b) w := by
  simp [Op.equalIn, run_underlying hi, run_underlying hn, typeInfo, hinfo, hcomp]
theorem run_eql_iface_int {P : Program} (w : World) {ti tn : TypeId} {ms : Array (String × TypeId)} {i : TypeInfo} {k : IntKind} (a b : Int)
    (hi : P.underlying ti = some (.interface ms)) (hn : P.underlying tn = some (.int k)) (hinfo : P.info? tn = some i) (hcomp : i.comparable = true) :
    (binOp .eql ti (.iface tn (.int k a)) (.iface tn (.int k b))).run P w = .ok (.bool (a == b)) w := by
  simp only [binOp]
  simp [Op.equal, Op.maxDepth, run_equalIn_iface_int w 9998 a b hi hn hinfo hcomp]

/-! ### closed facts on api.Errno -/
theorem ex_typeOf (args : Array Value) (w : World) : (callFunc 144 args).run Tryz.prog w = ((ReflectliteType.typeOf args).run Tryz.prog w).andThen fun v w' => .ok (.value v) w' :=
  run_callFunc_extern Tryz.func144 (by kernel_rfl) (by kernel_rfl) (by kernel_rfl) (by kernel_rfl) args w
theorem ex_comparable (args : Array Value) (w : World) : (callFunc 312 args).run Tryz.prog w = ((ReflectliteType.method (fun t => do noPackHeld "Comparable" t; pure (.bool (← typeInfo t).comparable)) args).run Tryz.prog w).andThen fun v w' => .ok (.value v) w' :=
  run_callFunc_extern Tryz.func312 (by kernel_rfl) (by kernel_rfl) (by kernel_rfl) (by kernel_rfl) args w

theorem er_comp : (Tryz.prog.info? 65).map (·.comparable) = some true := by kernel_rfl
theorem er_eq (a b : Int) (w : World) : (binOp .eql 30 (.iface 65 (.int .i64 a)) (.iface 65 (.int .i64 b))).run Tryz.prog w = .ok (.bool (a == b)) w := by
  obtain ⟨i, hi, hcmp⟩ := Option.map_eq_some_iff.1 er_comp
  exact run_eql_iface_int w a b Tryz.underlying30 Tryz.underlying65 hi hcmp
theorem er_typeOf (v : Value) (w : World) : (callFunc 144 #[.iface 65 v]).run Tryz.prog w = .ok (.value (.iface 195 (.agg #[.pointer (some ⟨7, 65, none⟩)]))) w := by
  rw [ex_typeOf]
  kernel_rfl
theorem er_comparable (w : World) : (callFunc 312 #[.agg #[.pointer (some ⟨7, 65, none⟩)]]).run Tryz.prog w = .ok (.value (.bool true)) w := by
  rw [ex_comparable]
  kernel_rfl
theorem er_methodComparable (v : Value) (w : World) : (Go.method 436 195 v "Comparable").run Tryz.prog w = .ok (312, v) w := by kernel_rfl
theorem er_noIs (v : Value) (xT : TypeId) (w : World) : (Instr.typeAssert (.iface 65 v) xT 247 true).run Tryz.prog w = .ok (.tuple #[.nilIface, .bool false]) w := run_typeAssert_lacksB Tryz.underlying247 (by kernel_rfl) (by kernel_rfl) v xT w
theorem er_noUnwrap (v : Value) (xT : TypeId) (w : World) : (Instr.typeAssert (.iface 65 v) xT 202 true).run Tryz.prog w = .ok (.tuple #[.nilIface, .bool false]) w := run_typeAssert_lacksB Tryz.underlying202 (by kernel_rfl) (by kernel_rfl) v xT w
theorem er_noUnwraps (v : Value) (xT : TypeId) (w : World) : (Instr.typeAssert (.iface 65 v) xT 204 true).run Tryz.prog w = .ok (.tuple #[.nilIface, .bool false]) w := run_typeAssert_lacksB Tryz.underlying204 (by kernel_rfl) (by kernel_rfl) v xT w
theorem er_noAs (v : Value) (xT : TypeId) (w : World) : (Instr.typeAssert (.iface 65 v) xT 199 true).run Tryz.prog w = .ok (.tuple #[.nilIface, .bool false]) w := run_typeAssert_lacksB Tryz.underlying199 (by kernel_rfl) (by kernel_rfl) v xT w
theorem is_nil (m : Int) (w : World) :
    Calls Tryz.prog 56 #[.nilIface, .iface 65 (.int .i64 m)] w fun e w' => e = .returned (.bool false) ∧ w = w' := by
  have hn := run_eql_iface_nil_left (P := Tryz.prog) w 65 (.int .i64 m) Tryz.underlying30
  go_enter Tryz.func56, Tryz.ntmps56
  go_wp2
  go_ret
  exact ⟨rfl, rfl⟩

theorem is_no_yes (n m : Int) (w : World) (h : n = m) :
    Calls Tryz.prog 56 #[.iface 65 (.int .i64 n), .iface 65 (.int .i64 m)] w fun e w' => e = .returned (.bool true) ∧ w = w' := by
  have tT := er_typeOf
  have cT := er_comparable
  have mR := er_methodComparable
  have nI := er_noIs
  have nU := er_noUnwrap
  have nV := er_noUnwraps
  have heq : ∀ w, (binOp .eql 30 (.iface 65 (.int .i64 n)) (.iface 65 (.int .i64 m))).run Tryz.prog w = .ok (.bool true) w := fun w => by rw [er_eq]; simp [h]
  clear h
  go_enter Tryz.func56, Tryz.ntmps56
  go_wp2
  refine wp_loop_rounds 1 ?_
  rw [rounds_succ]
  go_wp2
  go_ret
  exact ⟨rfl, rfl⟩
theorem is_no_no (n m : Int) (w : World) (h : n ≠ m) :
    Calls Tryz.prog 56 #[.iface 65 (.int .i64 n), .iface 65 (.int .i64 m)] w fun e w' => e = .returned (.bool false) ∧ w = w' := by
  have tT := er_typeOf
  have cT := er_comparable
  have mR := er_methodComparable
  have nI := er_noIs
  have nU := er_noUnwrap
  have nV := er_noUnwraps
  have heq : ∀ w, (binOp .eql 30 (.iface 65 (.int .i64 n)) (.iface 65 (.int .i64 m))).run Tryz.prog w = .ok (.bool false) w := fun w => by rw [er_eq]; simp [h]
  clear h
  go_enter Tryz.func56, Tryz.ntmps56
  go_wp2
  refine wp_loop_rounds 1 ?_
  rw [rounds_succ]
  go_wp2
  go_ret
  exact ⟨rfl, rfl⟩

/-! ### structs that wrap a number -/
theorem wr_amount_Unwrap (s : ByteArray) (n : Int) (w : World) : Calls Tryz.prog 325 #[.agg #[.string s, .int .i64 n]] w fun e w' => e = .returned (.iface 65 (.int .i64 n)) ∧ Below w.heap.size w w' := by
  go_enter Tryz.func325, Tryz.ntmps325
  go_wp2
  go_ret
  exact ⟨rfl, bl_alloc (bl_refl _) _⟩
theorem wr_amount_method (v : Value) (w : World) : (Go.method 436 270 v "Unwrap").run Tryz.prog w = .ok (325, v) w := by kernel_rfl
theorem wr_amount_typeOf (v : Value) (w : World) : (callFunc 144 #[.iface 270 v]).run Tryz.prog w = .ok (.value (.iface 195 (.agg #[.pointer (some ⟨7, 270, none⟩)]))) w := by
  rw [ex_typeOf]
  kernel_rfl
theorem wr_amount_noIs (v : Value) (xT : TypeId) (w : World) : (Instr.typeAssert (.iface 270 v) xT 247 true).run Tryz.prog w = .ok (.tuple #[.nilIface, .bool false]) w := run_typeAssert_lacksB Tryz.underlying247 (by kernel_rfl) (by kernel_rfl) v xT w
theorem wr_amount_noUnwraps (v : Value) (xT : TypeId) (w : World) : (Instr.typeAssert (.iface 270 v) xT 204 true).run Tryz.prog w = .ok (.tuple #[.nilIface, .bool false]) w := run_typeAssert_lacksB Tryz.underlying204 (by kernel_rfl) (by kernel_rfl) v xT w
theorem wr_amount_noAs (v : Value) (xT : TypeId) (w : World) : (Instr.typeAssert (.iface 270 v) xT 199 true).run Tryz.prog w = .ok (.tuple #[.nilIface, .bool false]) w := run_typeAssert_lacksB Tryz.underlying199 (by kernel_rfl) (by kernel_rfl) v xT w
theorem wr_amount_hasUnwrap (v : Value) (xT : TypeId) (w : World) : (Instr.typeAssert (.iface 270 v) xT 202 true).run Tryz.prog w = .ok (.tuple #[.iface 270 v, .bool true]) w := run_typeAssert_hasB Tryz.underlying202 (by kernel_rfl) v xT w
theorem is_amount_yes (s : ByteArray) (n m : Int) (w : World) (h : n = m) :
    Calls Tryz.prog 56 #[.iface 270 (.agg #[.string s, .int .i64 n]), .iface 65 (.int .i64 m)] w fun e w' => e = .returned (.bool true) ∧ Below w.heap.size w w' := by
  have tT := er_typeOf
  have cT := er_comparable
  have mR := er_methodComparable
  have nI := er_noIs
  have nU := er_noUnwrap
  have nV := er_noUnwraps
  have wI := wr_amount_noIs
  have wU := wr_amount_hasUnwrap
  have wM := wr_amount_method
  have heq : ∀ w, (binOp .eql 30 (.iface 65 (.int .i64 n)) (.iface 65 (.int .i64 m))).run Tryz.prog w = .ok (.bool true) w := fun w => by rw [er_eq]; simp [h]
  have hty : ∀ w, (binOp .eql 30 (.iface 270 (.agg #[.string s, .int .i64 n])) (.iface 65 (.int .i64 m))).run Tryz.prog w = .ok (.bool false) w := fun w => run_eql_iface_types (P := Tryz.prog) _ _ _ _ Tryz.underlying30 (by decide) w
  have hni : ∀ w, (binOp .eql 30 (.iface 65 (.int .i64 n)) .nilIface).run Tryz.prog w = .ok (.bool false) w := fun w => by first | kernel_rfl
  clear h
  go_enter Tryz.func56, Tryz.ntmps56
  go_wp2
  refine wp_loop_rounds 2 ?_
  rw [rounds_succ]
  go_wp2_with (go_at_call 325; refine (wr_amount_Unwrap s n _).mono ?_; rintro e w1 ⟨rfl, hb⟩)
  rw [rounds_succ]
  go_wp2
  go_ret
  exact ⟨rfl, hb⟩
theorem is_amount_no (s : ByteArray) (n m : Int) (w : World) (h : n ≠ m) :
    Calls Tryz.prog 56 #[.iface 270 (.agg #[.string s, .int .i64 n]), .iface 65 (.int .i64 m)] w fun e w' => e = .returned (.bool false) ∧ Below w.heap.size w w' := by
  have tT := er_typeOf
  have cT := er_comparable
  have mR := er_methodComparable
  have nI := er_noIs
  have nU := er_noUnwrap
  have nV := er_noUnwraps
  have wI := wr_amount_noIs
  have wU := wr_amount_hasUnwrap
  have wM := wr_amount_method
  have heq : ∀ w, (binOp .eql 30 (.iface 65 (.int .i64 n)) (.iface 65 (.int .i64 m))).run Tryz.prog w = .ok (.bool false) w := fun w => by rw [er_eq]; simp [h]
  have hty : ∀ w, (binOp .eql 30 (.iface 270 (.agg #[.string s, .int .i64 n])) (.iface 65 (.int .i64 m))).run Tryz.prog w = .ok (.bool false) w := fun w => run_eql_iface_types (P := Tryz.prog) _ _ _ _ Tryz.underlying30 (by decide) w
  have hni : ∀ w, (binOp .eql 30 (.iface 65 (.int .i64 n)) .nilIface).run Tryz.prog w = .ok (.bool false) w := fun w => by first | kernel_rfl
  clear h
  go_enter Tryz.func56, Tryz.ntmps56
  go_wp2
  refine wp_loop_rounds 2 ?_
  rw [rounds_succ]
  go_wp2_with (go_at_call 325; refine (wr_amount_Unwrap s n _).mono ?_; rintro e w1 ⟨rfl, hb⟩)
  rw [rounds_succ]
  go_wp2
  go_ret
  exact ⟨rfl, hb⟩
theorem wr_codes_Unwrap (s : ByteArray) (n : Int) (w : World) : Calls Tryz.prog 322 #[.agg #[.string s, .int .i64 n]] w fun e w' => e = .returned (.iface 65 (.int .i64 n)) ∧ Below w.heap.size w w' := by
  go_enter Tryz.func322, Tryz.ntmps322
  go_wp2
  go_ret
  exact ⟨rfl, bl_alloc (bl_refl _) _⟩
theorem wr_codes_method (v : Value) (w : World) : (Go.method 436 211 v "Unwrap").run Tryz.prog w = .ok (322, v) w := by kernel_rfl
theorem wr_codes_typeOf (v : Value) (w : World) : (callFunc 144 #[.iface 211 v]).run Tryz.prog w = .ok (.value (.iface 195 (.agg #[.pointer (some ⟨7, 211, none⟩)]))) w := by
  rw [ex_typeOf]
  kernel_rfl
theorem wr_codes_noIs (v : Value) (xT : TypeId) (w : World) : (Instr.typeAssert (.iface 211 v) xT 247 true).run Tryz.prog w = .ok (.tuple #[.nilIface, .bool false]) w := run_typeAssert_lacksB Tryz.underlying247 (by kernel_rfl) (by kernel_rfl) v xT w
theorem wr_codes_noUnwraps (v : Value) (xT : TypeId) (w : World) : (Instr.typeAssert (.iface 211 v) xT 204 true).run Tryz.prog w = .ok (.tuple #[.nilIface, .bool false]) w := run_typeAssert_lacksB Tryz.underlying204 (by kernel_rfl) (by kernel_rfl) v xT w
theorem wr_codes_noAs (v : Value) (xT : TypeId) (w : World) : (Instr.typeAssert (.iface 211 v) xT 199 true).run Tryz.prog w = .ok (.tuple #[.nilIface, .bool false]) w := run_typeAssert_lacksB Tryz.underlying199 (by kernel_rfl) (by kernel_rfl) v xT w
theorem wr_codes_hasUnwrap (v : Value) (xT : TypeId) (w : World) : (Instr.typeAssert (.iface 211 v) xT 202 true).run Tryz.prog w = .ok (.tuple #[.iface 211 v, .bool true]) w := run_typeAssert_hasB Tryz.underlying202 (by kernel_rfl) v xT w
theorem is_codes_yes (s : ByteArray) (n m : Int) (w : World) (h : n = m) :
    Calls Tryz.prog 56 #[.iface 211 (.agg #[.string s, .int .i64 n]), .iface 65 (.int .i64 m)] w fun e w' => e = .returned (.bool true) ∧ Below w.heap.size w w' := by
  have tT := er_typeOf
  have cT := er_comparable
  have mR := er_methodComparable
  have nI := er_noIs
  have nU := er_noUnwrap
  have nV := er_noUnwraps
  have wI := wr_codes_noIs
  have wU := wr_codes_hasUnwrap
  have wM := wr_codes_method
  have heq : ∀ w, (binOp .eql 30 (.iface 65 (.int .i64 n)) (.iface 65 (.int .i64 m))).run Tryz.prog w = .ok (.bool true) w := fun w => by rw [er_eq]; simp [h]
  have hty : ∀ w, (binOp .eql 30 (.iface 211 (.agg #[.string s, .int .i64 n])) (.iface 65 (.int .i64 m))).run Tryz.prog w = .ok (.bool false) w := fun w => run_eql_iface_types (P := Tryz.prog) _ _ _ _ Tryz.underlying30 (by decide) w
  have hni : ∀ w, (binOp .eql 30 (.iface 65 (.int .i64 n)) .nilIface).run Tryz.prog w = .ok (.bool false) w := fun w => by first | kernel_rfl
  clear h
  go_enter Tryz.func56, Tryz.ntmps56
  go_wp2
  refine wp_loop_rounds 2 ?_
  rw [rounds_succ]
  go_wp2_with (go_at_call 322; refine (wr_codes_Unwrap s n _).mono ?_; rintro e w1 ⟨rfl, hb⟩)
  rw [rounds_succ]
  go_wp2
  go_ret
  exact ⟨rfl, hb⟩
theorem is_codes_no (s : ByteArray) (n m : Int) (w : World) (h : n ≠ m) :
    Calls Tryz.prog 56 #[.iface 211 (.agg #[.string s, .int .i64 n]), .iface 65 (.int .i64 m)] w fun e w' => e = .returned (.bool false) ∧ Below w.heap.size w w' := by
  have tT := er_typeOf
  have cT := er_comparable
  have mR := er_methodComparable
  have nI := er_noIs
  have nU := er_noUnwrap
  have nV := er_noUnwraps
  have wI := wr_codes_noIs
  have wU := wr_codes_hasUnwrap
  have wM := wr_codes_method
  have heq : ∀ w, (binOp .eql 30 (.iface 65 (.int .i64 n)) (.iface 65 (.int .i64 m))).run Tryz.prog w = .ok (.bool false) w := fun w => by rw [er_eq]; simp [h]
  have hty : ∀ w, (binOp .eql 30 (.iface 211 (.agg #[.string s, .int .i64 n])) (.iface 65 (.int .i64 m))).run Tryz.prog w = .ok (.bool false) w := fun w => run_eql_iface_types (P := Tryz.prog) _ _ _ _ Tryz.underlying30 (by decide) w
  have hni : ∀ w, (binOp .eql 30 (.iface 65 (.int .i64 n)) .nilIface).run Tryz.prog w = .ok (.bool false) w := fun w => by first | kernel_rfl
  clear h
  go_enter Tryz.func56, Tryz.ntmps56
  go_wp2
  refine wp_loop_rounds 2 ?_
  rw [rounds_succ]
  go_wp2_with (go_at_call 322; refine (wr_codes_Unwrap s n _).mono ?_; rintro e w1 ⟨rfl, hb⟩)
  rw [rounds_succ]
  go_wp2
  go_ret
  exact ⟨rfl, hb⟩
theorem wr_notice_Unwrap (s : ByteArray) (n : Int) (w : World) : Calls Tryz.prog 304 #[.agg #[.string s, .int .i64 n]] w fun e w' => e = .returned (.iface 65 (.int .i64 n)) ∧ Below w.heap.size w w' := by
  go_enter Tryz.func304, Tryz.ntmps304
  go_wp2
  go_ret
  exact ⟨rfl, bl_alloc (bl_refl _) _⟩
theorem wr_notice_method (v : Value) (w : World) : (Go.method 436 75 v "Unwrap").run Tryz.prog w = .ok (304, v) w := by kernel_rfl
theorem wr_notice_typeOf (v : Value) (w : World) : (callFunc 144 #[.iface 75 v]).run Tryz.prog w = .ok (.value (.iface 195 (.agg #[.pointer (some ⟨7, 75, none⟩)]))) w := by
  rw [ex_typeOf]
  kernel_rfl
theorem wr_notice_noIs (v : Value) (xT : TypeId) (w : World) : (Instr.typeAssert (.iface 75 v) xT 247 true).run Tryz.prog w = .ok (.tuple #[.nilIface, .bool false]) w := run_typeAssert_lacksB Tryz.underlying247 (by kernel_rfl) (by kernel_rfl) v xT w
theorem wr_notice_noUnwraps (v : Value) (xT : TypeId) (w : World) : (Instr.typeAssert (.iface 75 v) xT 204 true).run Tryz.prog w = .ok (.tuple #[.nilIface, .bool false]) w := run_typeAssert_lacksB Tryz.underlying204 (by kernel_rfl) (by kernel_rfl) v xT w
theorem wr_notice_noAs (v : Value) (xT : TypeId) (w : World) : (Instr.typeAssert (.iface 75 v) xT 199 true).run Tryz.prog w = .ok (.tuple #[.nilIface, .bool false]) w := run_typeAssert_lacksB Tryz.underlying199 (by kernel_rfl) (by kernel_rfl) v xT w
theorem wr_notice_hasUnwrap (v : Value) (xT : TypeId) (w : World) : (Instr.typeAssert (.iface 75 v) xT 202 true).run Tryz.prog w = .ok (.tuple #[.iface 75 v, .bool true]) w := run_typeAssert_hasB Tryz.underlying202 (by kernel_rfl) v xT w
theorem is_notice_yes (s : ByteArray) (n m : Int) (w : World) (h : n = m) :
    Calls Tryz.prog 56 #[.iface 75 (.agg #[.string s, .int .i64 n]), .iface 65 (.int .i64 m)] w fun e w' => e = .returned (.bool true) ∧ Below w.heap.size w w' := by
  have tT := er_typeOf
  have cT := er_comparable
  have mR := er_methodComparable
  have nI := er_noIs
  have nU := er_noUnwrap
  have nV := er_noUnwraps
  have wI := wr_notice_noIs
  have wU := wr_notice_hasUnwrap
  have wM := wr_notice_method
  have heq : ∀ w, (binOp .eql 30 (.iface 65 (.int .i64 n)) (.iface 65 (.int .i64 m))).run Tryz.prog w = .ok (.bool true) w := fun w => by rw [er_eq]; simp [h]
  have hty : ∀ w, (binOp .eql 30 (.iface 75 (.agg #[.string s, .int .i64 n])) (.iface 65 (.int .i64 m))).run Tryz.prog w = .ok (.bool false) w := fun w => run_eql_iface_types (P := Tryz.prog) _ _ _ _ Tryz.underlying30 (by decide) w
  have hni : ∀ w, (binOp .eql 30 (.iface 65 (.int .i64 n)) .nilIface).run Tryz.prog w = .ok (.bool false) w := fun w => by first | kernel_rfl
  clear h
  go_enter Tryz.func56, Tryz.ntmps56
  go_wp2
  refine wp_loop_rounds 2 ?_
  rw [rounds_succ]
  go_wp2_with (go_at_call 304; refine (wr_notice_Unwrap s n _).mono ?_; rintro e w1 ⟨rfl, hb⟩)
  rw [rounds_succ]
  go_wp2
  go_ret
  exact ⟨rfl, hb⟩
theorem is_notice_no (s : ByteArray) (n m : Int) (w : World) (h : n ≠ m) :
    Calls Tryz.prog 56 #[.iface 75 (.agg #[.string s, .int .i64 n]), .iface 65 (.int .i64 m)] w fun e w' => e = .returned (.bool false) ∧ Below w.heap.size w w' := by
  have tT := er_typeOf
  have cT := er_comparable
  have mR := er_methodComparable
  have nI := er_noIs
  have nU := er_noUnwrap
  have nV := er_noUnwraps
  have wI := wr_notice_noIs
  have wU := wr_notice_hasUnwrap
  have wM := wr_notice_method
  have heq : ∀ w, (binOp .eql 30 (.iface 65 (.int .i64 n)) (.iface 65 (.int .i64 m))).run Tryz.prog w = .ok (.bool false) w := fun w => by rw [er_eq]; simp [h]
  have hty : ∀ w, (binOp .eql 30 (.iface 75 (.agg #[.string s, .int .i64 n])) (.iface 65 (.int .i64 m))).run Tryz.prog w = .ok (.bool false) w := fun w => run_eql_iface_types (P := Tryz.prog) _ _ _ _ Tryz.underlying30 (by decide) w
  have hni : ∀ w, (binOp .eql 30 (.iface 65 (.int .i64 n)) .nilIface).run Tryz.prog w = .ok (.bool false) w := fun w => by first | kernel_rfl
  clear h
  go_enter Tryz.func56, Tryz.ntmps56
  go_wp2
  refine wp_loop_rounds 2 ?_
  rw [rounds_succ]
  go_wp2_with (go_at_call 304; refine (wr_notice_Unwrap s n _).mono ?_; rintro e w1 ⟨rfl, hb⟩)
  rw [rounds_succ]
  go_wp2
  go_ret
  exact ⟨rfl, hb⟩
end Go.Proofs.YtblfobepaipebaaGreatDoor
