/- Joined texts of this proof: ErrAsG. -/
import Derived.Test.YtphabkaiheplpaaGreatDoorTurns31
/- errors.As at an api.Fault, by contracts, over the errors that the program makes (none of them a Fault): it answers false and leaves all old memory. -/
set_option linter.unusedVariables false
set_option linter.unusedSimpArgs false
set_option maxRecDepth 100000
namespace Go.Proofs.YtphabkaiheplpaaGreatDoor
open Go.RowKit Go.Extern.Stop Go.Stop Go.Extern Go.Extern.Rtype

/-- The library's variable errors.errorType holds the type of error. -/
def ErrT (w : World) : Prop := w.cell? ⟨0, 0, none⟩ = some (.iface 174 (.agg #[.pointer (some ⟨7, 36, none⟩)]))
theorem ErrT.below {w w1 : World} (h : ErrT w) (hb : Below w.heap.size w w1) : ErrT w1 := bl_cell hb h
theorem ErrT.pos {w : World} (h : ErrT w) : 0 < w.heap.size := World.block_lt_of_cell? w ⟨0, 0, none⟩ h

theorem rlm (z : Sem Value) (f : TypeId → Addr → Nat → Nat → Sem Value) (v : Value) :
    ReflectliteValue.method z f #[v] = (do match ← ReflectliteValue.parts v with | none => z | some (t, a, fl) => f t a fl (fl % 32)) := rfl
theorem ex_valueOf (args : Array Value) (w : World) : (callFunc 111 args).run Tryz.prog w = ((ReflectliteValue.unpack (args.getD 0 (.tuple #[]))).run Tryz.prog w).andThen fun v w' => .ok (.value v) w' :=
  run_callFunc_extern (e := fun args => ReflectliteValue.unpack (args.getD 0 (.tuple #[]))) Tryz.func111 (by kernel_rfl) (by kernel_rfl) (by kernel_rfl) (by kernel_rfl) args w
theorem ex_type (args : Array Value) (w : World) : (callFunc 112 args).run Tryz.prog w = ((ReflectliteValue.methodAny (ReflectliteValue.valueError "reflectlite.Value.Type" 0) (fun t _ _ _ => ReflectliteType.toType t) args).run Tryz.prog w).andThen fun v w' => .ok (.value v) w' :=
  run_callFunc_extern Tryz.func112 (by kernel_rfl) (by kernel_rfl) (by kernel_rfl) (by kernel_rfl) args w
theorem ex_isNil (args : Array Value) (w : World) : (callFunc 113 args).run Tryz.prog w = ((ReflectliteValue.method (ReflectliteValue.valueError "reflectlite.Value.IsNil" 0) ReflectliteValue.isNil args).run Tryz.prog w).andThen fun v w' => .ok (.value v) w' :=
  run_callFunc_extern Tryz.func113 (by kernel_rfl) (by kernel_rfl) (by kernel_rfl) (by kernel_rfl) args w
theorem ex_kind (args : Array Value) (w : World) : (callFunc 204 args).run Tryz.prog w = ((ReflectliteType.abiMethod (fun t => do pure (.int .u8 (← kind t))) args).run Tryz.prog w).andThen fun v w' => .ok (.value v) w' :=
  run_callFunc_extern Tryz.func204 (by kernel_rfl) (by kernel_rfl) (by kernel_rfl) (by kernel_rfl) args w
theorem ex_elem (args : Array Value) (w : World) : (callFunc 217 args).run Tryz.prog w = ((ReflectliteType.method ReflectliteType.elem args).run Tryz.prog w).andThen fun v w' => .ok (.value v) w' :=
  run_callFunc_extern Tryz.func217 (by kernel_rfl) (by kernel_rfl) (by kernel_rfl) (by kernel_rfl) args w
theorem ex_implements (args : Array Value) (w : World) : (callFunc 218 args).run Tryz.prog w = ((ReflectliteType.relation "Implements" ReflectliteType.implements_ args).run Tryz.prog w).andThen fun v w' => .ok (.value v) w' :=
  run_callFunc_extern Tryz.func218 (by kernel_rfl) (by kernel_rfl) (by kernel_rfl) (by kernel_rfl) args w
theorem ex_assignable (args : Array Value) (w : World) : (callFunc 215 args).run Tryz.prog w = ((ReflectliteType.relation "AssignableTo" ReflectliteType.assignableTo args).run Tryz.prog w).andThen fun v w' => .ok (.value v) w' :=
  run_callFunc_extern Tryz.func215 (by kernel_rfl) (by kernel_rfl) (by kernel_rfl) (by kernel_rfl) args w

theorem fa_valueOf (t : Addr) (w : World) : (callFunc 111 #[.iface 153 (.pointer (some t))]).run Tryz.prog w
    = .ok (.value (.agg #[.pointer (some ⟨7, 153, none⟩), .pointer (some ⟨w.heap.size, 0, none⟩), .int .u64 150])) (w.alloc (.cells #[.pointer (some t)] 153)) := by
  rw [ex_valueOf]
  kernel_rfl
theorem fa_type (a : Addr) (w : World) : (callFunc 112 #[.agg #[.pointer (some ⟨7, 153, none⟩), .pointer (some a), .int .u64 150]]).run Tryz.prog w
    = .ok (.value (.iface 174 (.agg #[.pointer (some ⟨7, 153, none⟩)]))) w := by
  rw [ex_type]
  kernel_rfl
theorem fa_methodKind (h : Value) (w : World) : (Go.method 396 174 (.agg #[h]) "Kind").run Tryz.prog w = .ok (204, h) w := by kernel_rfl
theorem fa_methodElem (h : Value) (w : World) : (Go.method 396 174 (.agg #[h]) "Elem").run Tryz.prog w = .ok (217, .agg #[h]) w := by kernel_rfl
theorem fa_methodImplements (h : Value) (w : World) : (Go.method 396 174 (.agg #[h]) "Implements").run Tryz.prog w = .ok (218, .agg #[h]) w := by kernel_rfl
theorem fa_methodAssignableTo (h : Value) (w : World) : (Go.method 396 174 (.agg #[h]) "AssignableTo").run Tryz.prog w = .ok (215, .agg #[h]) w := by kernel_rfl
theorem fa_kindP (w : World) : (callFunc 204 #[.pointer (some ⟨7, 153, none⟩)]).run Tryz.prog w = .ok (.value (.int .u8 22)) w := by
  rw [ex_kind]
  kernel_rfl
theorem fa_kindF (w : World) : (callFunc 204 #[.pointer (some ⟨7, 150, none⟩)]).run Tryz.prog w = .ok (.value (.int .u8 25)) w := by
  rw [ex_kind]
  kernel_rfl
theorem fa_parts (a : Addr) (w : World) : (ReflectliteValue.parts (.agg #[.pointer (some ⟨7, 153, none⟩), .pointer (some a), .int .u64 150])).run Tryz.prog w = .ok (some (153, a, 150)) w := by kernel_rfl
theorem fa_isNil (a p : Addr) (w : World) (ha : w.cell? a = some (.pointer (some p))) :
    (callFunc 113 #[.agg #[.pointer (some ⟨7, 153, none⟩), .pointer (some a), .int .u64 150]]).run Tryz.prog w = .ok (.value (.bool false)) w := by
  rw [ex_isNil, rlm]
  simp only [Sem.run_bind, fa_parts, Result.andThen]
  simp [ReflectliteValue.isNil, loadVar, isAgg, underlying, Tryz.underlying153, ha, Result.andThen]
theorem fa_elem (w : World) : (callFunc 217 #[.agg #[.pointer (some ⟨7, 153, none⟩)]]).run Tryz.prog w = .ok (.value (.iface 174 (.agg #[.pointer (some ⟨7, 150, none⟩)]))) w := by
  rw [ex_elem]
  kernel_rfl
theorem fa_implements (w : World) : (callFunc 218 #[.agg #[.pointer (some ⟨7, 150, none⟩)], .iface 174 (.agg #[.pointer (some ⟨7, 36, none⟩)])]).run Tryz.prog w = .ok (.value (.bool true)) w := by
  rw [ex_implements]
  kernel_rfl
theorem er_assignable (w : World) : (callFunc 215 #[.agg #[.pointer (some ⟨7, 84, none⟩)], .iface 174 (.agg #[.pointer (some ⟨7, 150, none⟩)])]).run Tryz.prog w = .ok (.value (.bool false)) w := by
  rw [ex_assignable]
  kernel_rfl
theorem wr_codes_assignable (w : World) : (callFunc 215 #[.agg #[.pointer (some ⟨7, 196, none⟩)], .iface 174 (.agg #[.pointer (some ⟨7, 150, none⟩)])]).run Tryz.prog w = .ok (.value (.bool false)) w := by
  rw [ex_assignable]
  kernel_rfl
theorem wr_mtch_assignable (w : World) : (callFunc 215 #[.agg #[.pointer (some ⟨7, 87, none⟩)], .iface 174 (.agg #[.pointer (some ⟨7, 150, none⟩)])]).run Tryz.prog w = .ok (.value (.bool false)) w := by
  rw [ex_assignable]
  kernel_rfl
theorem wr_notice_assignable (w : World) : (callFunc 215 #[.agg #[.pointer (some ⟨7, 136, none⟩)], .iface 174 (.agg #[.pointer (some ⟨7, 150, none⟩)])]).run Tryz.prog w = .ok (.value (.bool false)) w := by
  rw [ex_assignable]
  kernel_rfl

/-- errors.as of an api.Errno: false. -/
theorem as0_no (n : Int) (v : Value) (w : World) (c0 c1 c2 : Value) :
    Calls Tryz.prog 114 #[.iface 84 (.int .i64 n), v, .agg #[c0, c1, c2], .iface 174 (.agg #[.pointer (some ⟨7, 150, none⟩)])] w fun e w' => e = .returned (.bool false) ∧ Below w.heap.size w w' := by
  have tT := er_typeOf
  have mA := fa_methodAssignableTo
  have aA := er_assignable
  have nI := er_noAs
  have nU := er_noUnwrap
  have nV := er_noUnwraps

  go_enter Tryz.func114, Tryz.ntmps114
  go_wp2
  refine wp_loop_rounds 1 ?_
  rw [rounds_succ]
  go_wp2
  go_ret
  exact ⟨rfl, by repeat (first | exact bl_refl _ | apply bl_alloc | apply bl_drew)⟩
theorem as0_codes (s : ByteArray) (n : Int) (v : Value) (w : World) (c0 c1 c2 : Value) :
    Calls Tryz.prog 114 #[.iface 196 (.agg #[.string s, .int .i64 n]), v, .agg #[c0, c1, c2], .iface 174 (.agg #[.pointer (some ⟨7, 150, none⟩)])] w fun e w' => e = .returned (.bool false) ∧ Below w.heap.size w w' := by
  have tT := er_typeOf
  have tW := wr_codes_typeOf
  have mA := fa_methodAssignableTo
  have aA := er_assignable
  have aW := wr_codes_assignable
  have nI := er_noAs
  have nU := er_noUnwrap
  have nV := er_noUnwraps
  have wI := wr_codes_noAs
  have wU := wr_codes_hasUnwrap
  have wM := wr_codes_method
  have hni : ∀ w, (binOp .eql 36 (.iface 84 (.int .i64 n)) .nilIface).run Tryz.prog w = .ok (.bool false) w := fun w => by first | kernel_rfl
  go_enter Tryz.func114, Tryz.ntmps114
  go_wp2
  refine wp_loop_rounds 2 ?_
  rw [rounds_succ]
  go_wp2_with (go_at_call 229; refine (wr_codes_Unwrap s n _).mono ?_; rintro e w1 ⟨rfl, hb⟩)
  rw [rounds_succ]
  go_wp2
  go_ret
  exact ⟨rfl, bl_then (by repeat (first | exact bl_refl _ | apply bl_alloc | apply bl_drew)) hb⟩
theorem as0_mtch (s : ByteArray) (n : Int) (v : Value) (w : World) (c0 c1 c2 : Value) :
    Calls Tryz.prog 114 #[.iface 87 (.agg #[.string s, .int .i64 n]), v, .agg #[c0, c1, c2], .iface 174 (.agg #[.pointer (some ⟨7, 150, none⟩)])] w fun e w' => e = .returned (.bool false) ∧ Below w.heap.size w w' := by
  have tT := er_typeOf
  have tW := wr_mtch_typeOf
  have mA := fa_methodAssignableTo
  have aA := er_assignable
  have aW := wr_mtch_assignable
  have nI := er_noAs
  have nU := er_noUnwrap
  have nV := er_noUnwraps
  have wI := wr_mtch_noAs
  have wU := wr_mtch_hasUnwrap
  have wM := wr_mtch_method
  have hni : ∀ w, (binOp .eql 36 (.iface 84 (.int .i64 n)) .nilIface).run Tryz.prog w = .ok (.bool false) w := fun w => by first | kernel_rfl
  go_enter Tryz.func114, Tryz.ntmps114
  go_wp2
  refine wp_loop_rounds 2 ?_
  rw [rounds_succ]
  go_wp2_with (go_at_call 209; refine (wr_mtch_Unwrap s n _).mono ?_; rintro e w1 ⟨rfl, hb⟩)
  rw [rounds_succ]
  go_wp2
  go_ret
  exact ⟨rfl, bl_then (by repeat (first | exact bl_refl _ | apply bl_alloc | apply bl_drew)) hb⟩
theorem as0_notice (s : ByteArray) (n : Int) (v : Value) (w : World) (c0 c1 c2 : Value) :
    Calls Tryz.prog 114 #[.iface 136 (.agg #[.string s, .int .i64 n]), v, .agg #[c0, c1, c2], .iface 174 (.agg #[.pointer (some ⟨7, 150, none⟩)])] w fun e w' => e = .returned (.bool false) ∧ Below w.heap.size w w' := by
  have tT := er_typeOf
  have tW := wr_notice_typeOf
  have mA := fa_methodAssignableTo
  have aA := er_assignable
  have aW := wr_notice_assignable
  have nI := er_noAs
  have nU := er_noUnwrap
  have nV := er_noUnwraps
  have wI := wr_notice_noAs
  have wU := wr_notice_hasUnwrap
  have wM := wr_notice_method
  have hni : ∀ w, (binOp .eql 36 (.iface 84 (.int .i64 n)) .nilIface).run Tryz.prog w = .ok (.bool false) w := fun w => by first | kernel_rfl
  go_enter Tryz.func114, Tryz.ntmps114
  go_wp2
  refine wp_loop_rounds 2 ?_
  rw [rounds_succ]
  go_wp2_with (go_at_call 211; refine (wr_notice_Unwrap s n _).mono ?_; rintro e w1 ⟨rfl, hb⟩)
  rw [rounds_succ]
  go_wp2
  go_ret
  exact ⟨rfl, bl_then (by repeat (first | exact bl_refl _ | apply bl_alloc | apply bl_drew)) hb⟩

/-- errors.As of an error that is no nil, by what errors.as answers. -/
theorem as_false (tE : TypeId) (vE : Value) (t : Addr) (w : World) (hg : ErrT w)
    (has : ∀ (c0 c1 c2 : Value) (W : World), Calls Tryz.prog 114 #[.iface tE vE, .iface 153 (.pointer (some t)), .agg #[c0, c1, c2], .iface 174 (.agg #[.pointer (some ⟨7, 150, none⟩)])] W fun e w' => e = .returned (.bool false) ∧ Below W.heap.size W w') :
    Calls Tryz.prog 75 #[.iface tE vE, .iface 153 (.pointer (some t))] w fun e w' => e = .returned (.bool false) ∧ Below w.heap.size w w' := by
  have f6 := fa_valueOf
  have f7 := fa_type
  have mK := fa_methodKind
  have mE := fa_methodElem
  have mI := fa_methodImplements
  have kP := fa_kindP
  have kF := fa_kindF
  have eF := fa_elem
  have iF := fa_implements
  have n8 := fa_isNil ⟨w.heap.size, 0, none⟩ t ((w.alloc (.cells #[.pointer (some t)] 153)).alloc (.cells #[.pointer (some ⟨7, 153, none⟩), .pointer (some ⟨w.heap.size, 0, none⟩), .int .u64 150] 186)) (by simp)
  have hlt := ErrT.pos hg
  have hg2 : ((w.alloc (.cells #[.pointer (some t)] 153)).alloc (.cells #[.pointer (some ⟨7, 153, none⟩), .pointer (some ⟨w.heap.size, 0, none⟩), .int .u64 150] 186)).cell? ⟨0, 0, none⟩ = some (.iface 174 (.agg #[.pointer (some ⟨7, 36, none⟩)])) :=
    (hg.below (bl_alloc (bl_alloc (bl_refl w) _) _))
  have hne : ∀ w, (binOp .eql 36 (.iface tE vE) .nilIface).run Tryz.prog w = .ok (.bool false) w := fun w => by kernel_rfl
  clear hg
  go_enter Tryz.func75, Tryz.ntmps75
  go_wp2_with (go_at_call 114; refine (has _ _ _ _).mono ?_; rintro e w1 ⟨rfl, hb⟩)
  go_ret
  exact ⟨rfl, bl_then (by repeat (first | exact bl_refl _ | apply bl_alloc | apply bl_drew)) hb⟩
end Go.Proofs.YtphabkaiheplpaaGreatDoor
