/- Joined texts of this proof: ErrG. -/
import Derived.WalkKit
import Derived.LaidEql
import Derived.Stop.Asserts
import Derived.RowKitTokens
import Derived.WalkLawsBesides
import Derived.WideLaws
import Derived.Test.YtphabkaiheplpaaGreatDoorTurns1
/- errors.Is, errors.As and the kit's Num and Plain, by contracts, over the errors that the program makes: nil, an api.Errno, a struct that wraps one. -/
set_option linter.unusedVariables false
set_option linter.unusedSimpArgs false
set_option maxRecDepth 100000
namespace Go.Proofs.YtphabkaiheplpaaGreatDoor
open Go.RowKit Go.Extern.Stop Go.Stop Go.Extern Go.Extern.Rtype

theorem run_equalIn_iface_int {P : Program} (w : World) (d : Nat) {ti tn : TypeId} {ms : Array (String × TypeId)} {i : TypeInfo} {k : IntKind} (a b : Int)
    (hi : P.underlying ti = some (.interface ms)) (hn : P.underlying tn = some (.int k)) (hinfo : P.info? tn = some i) (hcomp : i.comparable = true) :
    (Op.equalIn (d + 2) ti (.iface tn (.int k a)) (.iface tn (.int k b))).run P w = .ok (a == b) w := by
  simp [Op.equalIn, run_underlying hi, run_underlying hn, typeInfo, hinfo, hcomp]
theorem run_eql_iface_int {P : Program} (w : World) {ti tn : TypeId} {ms : Array (String × TypeId)} {i : TypeInfo} {k : IntKind} (a b : Int)
    (hi : P.underlying ti = some (.interface ms)) (hn : P.underlying tn = some (.int k)) (hinfo : P.info? tn = some i) (hcomp : i.comparable = true) :
    (binOp .eql ti (.iface tn (.int k a)) (.iface tn (.int k b))).run P w = .ok (.bool (a == b)) w := by
  simp only [binOp]
  simp [Op.equal, Op.maxDepth, run_equalIn_iface_int w 9998 a b hi hn hinfo hcomp]

/-! ### closed facts on api.Errno -/
theorem ex_typeOf (args : Array Value) (w : World) : (callFunc 64 args).run Tryz.prog w = ((ReflectliteType.typeOf args).run Tryz.prog w).andThen fun v w' => .ok (.value v) w' :=
  run_callFunc_extern Tryz.func64 (by kernel_rfl) (by kernel_rfl) (by kernel_rfl) (by kernel_rfl) args w
theorem ex_comparable (args : Array Value) (w : World) : (callFunc 216 args).run Tryz.prog w = ((ReflectliteType.method (fun t => do noPackHeld "Comparable" t; pure (.bool (← typeInfo t).comparable)) args).run Tryz.prog w).andThen fun v w' => .ok (.value v) w' :=
  run_callFunc_extern Tryz.func216 (by kernel_rfl) (by kernel_rfl) (by kernel_rfl) (by kernel_rfl) args w

theorem er_comp : (Tryz.prog.info? 84).map (·.comparable) = some true := by kernel_rfl
theorem er_eq (a b : Int) (w : World) : (binOp .eql 36 (.iface 84 (.int .i64 a)) (.iface 84 (.int .i64 b))).run Tryz.prog w = .ok (.bool (a == b)) w := by
  obtain ⟨i, hi, hcmp⟩ := Option.map_eq_some_iff.1 er_comp
  exact run_eql_iface_int w a b Tryz.underlying36 Tryz.underlying84 hi hcmp
theorem er_typeOf (v : Value) (w : World) : (callFunc 64 #[.iface 84 v]).run Tryz.prog w = .ok (.value (.iface 174 (.agg #[.pointer (some ⟨7, 84, none⟩)]))) w := by
  rw [ex_typeOf]
  kernel_rfl
theorem er_comparable (w : World) : (callFunc 216 #[.agg #[.pointer (some ⟨7, 84, none⟩)]]).run Tryz.prog w = .ok (.value (.bool true)) w := by
  rw [ex_comparable]
  kernel_rfl
theorem er_methodComparable (v : Value) (w : World) : (Go.method 396 174 v "Comparable").run Tryz.prog w = .ok (216, v) w := by kernel_rfl
theorem er_noIs (v : Value) (xT : TypeId) (w : World) : (Instr.typeAssert (.iface 84 v) xT 176 true).run Tryz.prog w = .ok (.tuple #[.nilIface, .bool false]) w := run_typeAssert_lacksB Tryz.underlying176 (by kernel_rfl) (by kernel_rfl) v xT w
theorem er_noUnwrap (v : Value) (xT : TypeId) (w : World) : (Instr.typeAssert (.iface 84 v) xT 178 true).run Tryz.prog w = .ok (.tuple #[.nilIface, .bool false]) w := run_typeAssert_lacksB Tryz.underlying178 (by kernel_rfl) (by kernel_rfl) v xT w
theorem er_noUnwraps (v : Value) (xT : TypeId) (w : World) : (Instr.typeAssert (.iface 84 v) xT 180 true).run Tryz.prog w = .ok (.tuple #[.nilIface, .bool false]) w := run_typeAssert_lacksB Tryz.underlying180 (by kernel_rfl) (by kernel_rfl) v xT w
theorem er_noAs (v : Value) (xT : TypeId) (w : World) : (Instr.typeAssert (.iface 84 v) xT 218 true).run Tryz.prog w = .ok (.tuple #[.nilIface, .bool false]) w := run_typeAssert_lacksB Tryz.underlying218 (by kernel_rfl) (by kernel_rfl) v xT w
theorem is_nil (m : Int) (w : World) :
    Calls Tryz.prog 31 #[.nilIface, .iface 84 (.int .i64 m)] w fun e w' => e = .returned (.bool false) ∧ w = w' := by
  have hn := run_eql_iface_nil_left (P := Tryz.prog) w 84 (.int .i64 m) Tryz.underlying36
  go_enter Tryz.func31, Tryz.ntmps31
  go_wp2
  go_ret
  exact ⟨rfl, rfl⟩

theorem is_no_yes (n m : Int) (w : World) (h : n = m) :
    Calls Tryz.prog 31 #[.iface 84 (.int .i64 n), .iface 84 (.int .i64 m)] w fun e w' => e = .returned (.bool true) ∧ w = w' := by
  have tT := er_typeOf
  have cT := er_comparable
  have mR := er_methodComparable
  have nI := er_noIs
  have nU := er_noUnwrap
  have nV := er_noUnwraps
  have heq : ∀ w, (binOp .eql 36 (.iface 84 (.int .i64 n)) (.iface 84 (.int .i64 m))).run Tryz.prog w = .ok (.bool true) w := fun w => by rw [er_eq]; simp [h]
  clear h
  go_enter Tryz.func31, Tryz.ntmps31
  go_wp2
  refine wp_loop_rounds 1 ?_
  rw [rounds_succ]
  go_wp2
  go_ret
  exact ⟨rfl, rfl⟩
theorem is_no_no (n m : Int) (w : World) (h : n ≠ m) :
    Calls Tryz.prog 31 #[.iface 84 (.int .i64 n), .iface 84 (.int .i64 m)] w fun e w' => e = .returned (.bool false) ∧ w = w' := by
  have tT := er_typeOf
  have cT := er_comparable
  have mR := er_methodComparable
  have nI := er_noIs
  have nU := er_noUnwrap
  have nV := er_noUnwraps
  have heq : ∀ w, (binOp .eql 36 (.iface 84 (.int .i64 n)) (.iface 84 (.int .i64 m))).run Tryz.prog w = .ok (.bool false) w := fun w => by rw [er_eq]; simp [h]
  clear h
  go_enter Tryz.func31, Tryz.ntmps31
  go_wp2
  refine wp_loop_rounds 1 ?_
  rw [rounds_succ]
  go_wp2
  go_ret
  exact ⟨rfl, rfl⟩

/-! ### structs that wrap a number -/
theorem wr_codes_Unwrap (s : ByteArray) (n : Int) (w : World) : Calls Tryz.prog 229 #[.agg #[.string s, .int .i64 n]] w fun e w' => e = .returned (.iface 84 (.int .i64 n)) ∧ Below w.heap.size w w' := by
  go_enter Tryz.func229, Tryz.ntmps229
  go_wp2
  go_ret
  exact ⟨rfl, bl_alloc (bl_refl _) _⟩
theorem wr_codes_method (v : Value) (w : World) : (Go.method 396 196 v "Unwrap").run Tryz.prog w = .ok (229, v) w := by kernel_rfl
theorem wr_codes_typeOf (v : Value) (w : World) : (callFunc 64 #[.iface 196 v]).run Tryz.prog w = .ok (.value (.iface 174 (.agg #[.pointer (some ⟨7, 196, none⟩)]))) w := by
  rw [ex_typeOf]
  kernel_rfl
theorem wr_codes_noIs (v : Value) (xT : TypeId) (w : World) : (Instr.typeAssert (.iface 196 v) xT 176 true).run Tryz.prog w = .ok (.tuple #[.nilIface, .bool false]) w := run_typeAssert_lacksB Tryz.underlying176 (by kernel_rfl) (by kernel_rfl) v xT w
theorem wr_codes_noUnwraps (v : Value) (xT : TypeId) (w : World) : (Instr.typeAssert (.iface 196 v) xT 180 true).run Tryz.prog w = .ok (.tuple #[.nilIface, .bool false]) w := run_typeAssert_lacksB Tryz.underlying180 (by kernel_rfl) (by kernel_rfl) v xT w
theorem wr_codes_noAs (v : Value) (xT : TypeId) (w : World) : (Instr.typeAssert (.iface 196 v) xT 218 true).run Tryz.prog w = .ok (.tuple #[.nilIface, .bool false]) w := run_typeAssert_lacksB Tryz.underlying218 (by kernel_rfl) (by kernel_rfl) v xT w
theorem wr_codes_hasUnwrap (v : Value) (xT : TypeId) (w : World) : (Instr.typeAssert (.iface 196 v) xT 178 true).run Tryz.prog w = .ok (.tuple #[.iface 196 v, .bool true]) w := run_typeAssert_hasB Tryz.underlying178 (by kernel_rfl) v xT w
theorem is_codes_yes (s : ByteArray) (n m : Int) (w : World) (h : n = m) :
    Calls Tryz.prog 31 #[.iface 196 (.agg #[.string s, .int .i64 n]), .iface 84 (.int .i64 m)] w fun e w' => e = .returned (.bool true) ∧ Below w.heap.size w w' := by
  have tT := er_typeOf
  have cT := er_comparable
  have mR := er_methodComparable
  have nI := er_noIs
  have nU := er_noUnwrap
  have nV := er_noUnwraps
  have wI := wr_codes_noIs
  have wU := wr_codes_hasUnwrap
  have wM := wr_codes_method
  have heq : ∀ w, (binOp .eql 36 (.iface 84 (.int .i64 n)) (.iface 84 (.int .i64 m))).run Tryz.prog w = .ok (.bool true) w := fun w => by rw [er_eq]; simp [h]
  have hty : ∀ w, (binOp .eql 36 (.iface 196 (.agg #[.string s, .int .i64 n])) (.iface 84 (.int .i64 m))).run Tryz.prog w = .ok (.bool false) w := fun w => run_eql_iface_types (P := Tryz.prog) _ _ _ _ Tryz.underlying36 (by decide) w
  have hni : ∀ w, (binOp .eql 36 (.iface 84 (.int .i64 n)) .nilIface).run Tryz.prog w = .ok (.bool false) w := fun w => by first | kernel_rfl
  clear h
  go_enter Tryz.func31, Tryz.ntmps31
  go_wp2
  refine wp_loop_rounds 2 ?_
  rw [rounds_succ]
  go_wp2_with (go_at_call 229; refine (wr_codes_Unwrap s n _).mono ?_; rintro e w1 ⟨rfl, hb⟩)
  rw [rounds_succ]
  go_wp2
  go_ret
  exact ⟨rfl, hb⟩
theorem is_codes_no (s : ByteArray) (n m : Int) (w : World) (h : n ≠ m) :
    Calls Tryz.prog 31 #[.iface 196 (.agg #[.string s, .int .i64 n]), .iface 84 (.int .i64 m)] w fun e w' => e = .returned (.bool false) ∧ Below w.heap.size w w' := by
  have tT := er_typeOf
  have cT := er_comparable
  have mR := er_methodComparable
  have nI := er_noIs
  have nU := er_noUnwrap
  have nV := er_noUnwraps
  have wI := wr_codes_noIs
  have wU := wr_codes_hasUnwrap
  have wM := wr_codes_method
  have heq : ∀ w, (binOp .eql 36 (.iface 84 (.int .i64 n)) (.iface 84 (.int .i64 m))).run Tryz.prog w = .ok (.bool false) w := fun w => by rw [er_eq]; simp [h]
  have hty : ∀ w, (binOp .eql 36 (.iface 196 (.agg #[.string s, .int .i64 n])) (.iface 84 (.int .i64 m))).run Tryz.prog w = .ok (.bool false) w := fun w => run_eql_iface_types (P := Tryz.prog) _ _ _ _ Tryz.underlying36 (by decide) w
  have hni : ∀ w, (binOp .eql 36 (.iface 84 (.int .i64 n)) .nilIface).run Tryz.prog w = .ok (.bool false) w := fun w => by first | kernel_rfl
  clear h
  go_enter Tryz.func31, Tryz.ntmps31
  go_wp2
  refine wp_loop_rounds 2 ?_
  rw [rounds_succ]
  go_wp2_with (go_at_call 229; refine (wr_codes_Unwrap s n _).mono ?_; rintro e w1 ⟨rfl, hb⟩)
  rw [rounds_succ]
  go_wp2
  go_ret
  exact ⟨rfl, hb⟩
theorem wr_mtch_Unwrap (s : ByteArray) (n : Int) (w : World) : Calls Tryz.prog 209 #[.agg #[.string s, .int .i64 n]] w fun e w' => e = .returned (.iface 84 (.int .i64 n)) ∧ Below w.heap.size w w' := by
  go_enter Tryz.func209, Tryz.ntmps209
  go_wp2
  go_ret
  exact ⟨rfl, bl_alloc (bl_refl _) _⟩
theorem wr_mtch_method (v : Value) (w : World) : (Go.method 396 87 v "Unwrap").run Tryz.prog w = .ok (209, v) w := by kernel_rfl
theorem wr_mtch_typeOf (v : Value) (w : World) : (callFunc 64 #[.iface 87 v]).run Tryz.prog w = .ok (.value (.iface 174 (.agg #[.pointer (some ⟨7, 87, none⟩)]))) w := by
  rw [ex_typeOf]
  kernel_rfl
theorem wr_mtch_noIs (v : Value) (xT : TypeId) (w : World) : (Instr.typeAssert (.iface 87 v) xT 176 true).run Tryz.prog w = .ok (.tuple #[.nilIface, .bool false]) w := run_typeAssert_lacksB Tryz.underlying176 (by kernel_rfl) (by kernel_rfl) v xT w
theorem wr_mtch_noUnwraps (v : Value) (xT : TypeId) (w : World) : (Instr.typeAssert (.iface 87 v) xT 180 true).run Tryz.prog w = .ok (.tuple #[.nilIface, .bool false]) w := run_typeAssert_lacksB Tryz.underlying180 (by kernel_rfl) (by kernel_rfl) v xT w
theorem wr_mtch_noAs (v : Value) (xT : TypeId) (w : World) : (Instr.typeAssert (.iface 87 v) xT 218 true).run Tryz.prog w = .ok (.tuple #[.nilIface, .bool false]) w := run_typeAssert_lacksB Tryz.underlying218 (by kernel_rfl) (by kernel_rfl) v xT w
theorem wr_mtch_hasUnwrap (v : Value) (xT : TypeId) (w : World) : (Instr.typeAssert (.iface 87 v) xT 178 true).run Tryz.prog w = .ok (.tuple #[.iface 87 v, .bool true]) w := run_typeAssert_hasB Tryz.underlying178 (by kernel_rfl) v xT w
theorem is_mtch_yes (s : ByteArray) (n m : Int) (w : World) (h : n = m) :
    Calls Tryz.prog 31 #[.iface 87 (.agg #[.string s, .int .i64 n]), .iface 84 (.int .i64 m)] w fun e w' => e = .returned (.bool true) ∧ Below w.heap.size w w' := by
  have tT := er_typeOf
  have cT := er_comparable
  have mR := er_methodComparable
  have nI := er_noIs
  have nU := er_noUnwrap
  have nV := er_noUnwraps
  have wI := wr_mtch_noIs
  have wU := wr_mtch_hasUnwrap
  have wM := wr_mtch_method
  have heq : ∀ w, (binOp .eql 36 (.iface 84 (.int .i64 n)) (.iface 84 (.int .i64 m))).run Tryz.prog w = .ok (.bool true) w := fun w => by rw [er_eq]; simp [h]
  have hty : ∀ w, (binOp .eql 36 (.iface 87 (.agg #[.string s, .int .i64 n])) (.iface 84 (.int .i64 m))).run Tryz.prog w = .ok (.bool false) w := fun w => run_eql_iface_types (P := Tryz.prog) _ _ _ _ Tryz.underlying36 (by decide) w
  have hni : ∀ w, (binOp .eql 36 (.iface 84 (.int .i64 n)) .nilIface).run Tryz.prog w = .ok (.bool false) w := fun w => by first | kernel_rfl
  clear h
  go_enter Tryz.func31, Tryz.ntmps31
  go_wp2
  refine wp_loop_rounds 2 ?_
  rw [rounds_succ]
  go_wp2_with (go_at_call 209; refine (wr_mtch_Unwrap s n _).mono ?_; rintro e w1 ⟨rfl, hb⟩)
  rw [rounds_succ]
  go_wp2
  go_ret
  exact ⟨rfl, hb⟩
theorem is_mtch_no (s : ByteArray) (n m : Int) (w : World) (h : n ≠ m) :
    Calls Tryz.prog 31 #[.iface 87 (.agg #[.string s, .int .i64 n]), .iface 84 (.int .i64 m)] w fun e w' => e = .returned (.bool false) ∧ Below w.heap.size w w' := by
  have tT := er_typeOf
  have cT := er_comparable
  have mR := er_methodComparable
  have nI := er_noIs
  have nU := er_noUnwrap
  have nV := er_noUnwraps
  have wI := wr_mtch_noIs
  have wU := wr_mtch_hasUnwrap
  have wM := wr_mtch_method
  have heq : ∀ w, (binOp .eql 36 (.iface 84 (.int .i64 n)) (.iface 84 (.int .i64 m))).run Tryz.prog w = .ok (.bool false) w := fun w => by rw [er_eq]; simp [h]
  have hty : ∀ w, (binOp .eql 36 (.iface 87 (.agg #[.string s, .int .i64 n])) (.iface 84 (.int .i64 m))).run Tryz.prog w = .ok (.bool false) w := fun w => run_eql_iface_types (P := Tryz.prog) _ _ _ _ Tryz.underlying36 (by decide) w
  have hni : ∀ w, (binOp .eql 36 (.iface 84 (.int .i64 n)) .nilIface).run Tryz.prog w = .ok (.bool false) w := fun w => by first | kernel_rfl
  clear h
  go_enter Tryz.func31, Tryz.ntmps31
  go_wp2
  refine wp_loop_rounds 2 ?_
  rw [rounds_succ]
  go_wp2_with (go_at_call 209; refine (wr_mtch_Unwrap s n _).mono ?_; rintro e w1 ⟨rfl, hb⟩)
  rw [rounds_succ]
  go_wp2
  go_ret
  exact ⟨rfl, hb⟩
theorem wr_notice_Unwrap (s : ByteArray) (n : Int) (w : World) : Calls Tryz.prog 211 #[.agg #[.string s, .int .i64 n]] w fun e w' => e = .returned (.iface 84 (.int .i64 n)) ∧ Below w.heap.size w w' := by
  go_enter Tryz.func211, Tryz.ntmps211
  go_wp2
  go_ret
  exact ⟨rfl, bl_alloc (bl_refl _) _⟩
theorem wr_notice_method (v : Value) (w : World) : (Go.method 396 136 v "Unwrap").run Tryz.prog w = .ok (211, v) w := by kernel_rfl
theorem wr_notice_typeOf (v : Value) (w : World) : (callFunc 64 #[.iface 136 v]).run Tryz.prog w = .ok (.value (.iface 174 (.agg #[.pointer (some ⟨7, 136, none⟩)]))) w := by
  rw [ex_typeOf]
  kernel_rfl
theorem wr_notice_noIs (v : Value) (xT : TypeId) (w : World) : (Instr.typeAssert (.iface 136 v) xT 176 true).run Tryz.prog w = .ok (.tuple #[.nilIface, .bool false]) w := run_typeAssert_lacksB Tryz.underlying176 (by kernel_rfl) (by kernel_rfl) v xT w
theorem wr_notice_noUnwraps (v : Value) (xT : TypeId) (w : World) : (Instr.typeAssert (.iface 136 v) xT 180 true).run Tryz.prog w = .ok (.tuple #[.nilIface, .bool false]) w := run_typeAssert_lacksB Tryz.underlying180 (by kernel_rfl) (by kernel_rfl) v xT w
theorem wr_notice_noAs (v : Value) (xT : TypeId) (w : World) : (Instr.typeAssert (.iface 136 v) xT 218 true).run Tryz.prog w = .ok (.tuple #[.nilIface, .bool false]) w := run_typeAssert_lacksB Tryz.underlying218 (by kernel_rfl) (by kernel_rfl) v xT w
theorem wr_notice_hasUnwrap (v : Value) (xT : TypeId) (w : World) : (Instr.typeAssert (.iface 136 v) xT 178 true).run Tryz.prog w = .ok (.tuple #[.iface 136 v, .bool true]) w := run_typeAssert_hasB Tryz.underlying178 (by kernel_rfl) v xT w
theorem is_notice_yes (s : ByteArray) (n m : Int) (w : World) (h : n = m) :
    Calls Tryz.prog 31 #[.iface 136 (.agg #[.string s, .int .i64 n]), .iface 84 (.int .i64 m)] w fun e w' => e = .returned (.bool true) ∧ Below w.heap.size w w' := by
  have tT := er_typeOf
  have cT := er_comparable
  have mR := er_methodComparable
  have nI := er_noIs
  have nU := er_noUnwrap
  have nV := er_noUnwraps
  have wI := wr_notice_noIs
  have wU := wr_notice_hasUnwrap
  have wM := wr_notice_method
  have heq : ∀ w, (binOp .eql 36 (.iface 84 (.int .i64 n)) (.iface 84 (.int .i64 m))).run Tryz.prog w = .ok (.bool true) w := fun w => by rw [er_eq]; simp [h]
  have hty : ∀ w, (binOp .eql 36 (.iface 136 (.agg #[.string s, .int .i64 n])) (.iface 84 (.int .i64 m))).run Tryz.prog w = .ok (.bool false) w := fun w => run_eql_iface_types (P := Tryz.prog) _ _ _ _ Tryz.underlying36 (by decide) w
  have hni : ∀ w, (binOp .eql 36 (.iface 84 (.int .i64 n)) .nilIface).run Tryz.prog w = .ok (.bool false) w := fun w => by first | kernel_rfl
  clear h
  go_enter Tryz.func31, Tryz.ntmps31
  go_wp2
  refine wp_loop_rounds 2 ?_
  rw [rounds_succ]
  go_wp2_with (go_at_call 211; refine (wr_notice_Unwrap s n _).mono ?_; rintro e w1 ⟨rfl, hb⟩)
  rw [rounds_succ]
  go_wp2
  go_ret
  exact ⟨rfl, hb⟩
theorem is_notice_no (s : ByteArray) (n m : Int) (w : World) (h : n ≠ m) :
    Calls Tryz.prog 31 #[.iface 136 (.agg #[.string s, .int .i64 n]), .iface 84 (.int .i64 m)] w fun e w' => e = .returned (.bool false) ∧ Below w.heap.size w w' := by
  have tT := er_typeOf
  have cT := er_comparable
  have mR := er_methodComparable
  have nI := er_noIs
  have nU := er_noUnwrap
  have nV := er_noUnwraps
  have wI := wr_notice_noIs
  have wU := wr_notice_hasUnwrap
  have wM := wr_notice_method
  have heq : ∀ w, (binOp .eql 36 (.iface 84 (.int .i64 n)) (.iface 84 (.int .i64 m))).run Tryz.prog w = .ok (.bool false) w := fun w => by rw [er_eq]; simp [h]
  have hty : ∀ w, (binOp .eql 36 (.iface 136 (.agg #[.string s, .int .i64 n])) (.iface 84 (.int .i64 m))).run Tryz.prog w = .ok (.bool false) w := fun w => run_eql_iface_types (P := Tryz.prog) _ _ _ _ Tryz.underlying36 (by decide) w
  have hni : ∀ w, (binOp .eql 36 (.iface 84 (.int .i64 n)) .nilIface).run Tryz.prog w = .ok (.bool false) w := fun w => by first | kernel_rfl
  clear h
  go_enter Tryz.func31, Tryz.ntmps31
  go_wp2
  refine wp_loop_rounds 2 ?_
  rw [rounds_succ]
  go_wp2_with (go_at_call 211; refine (wr_notice_Unwrap s n _).mono ?_; rintro e w1 ⟨rfl, hb⟩)
  rw [rounds_succ]
  go_wp2
  go_ret
  exact ⟨rfl, hb⟩
end Go.Proofs.YtphabkaiheplpaaGreatDoor
