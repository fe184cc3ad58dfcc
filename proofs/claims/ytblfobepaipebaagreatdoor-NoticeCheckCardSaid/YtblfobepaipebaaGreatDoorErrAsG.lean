/- errors.As at an api.Fault, by contracts, over the errors that the program makes (none of them a Fault): it answers false and leaves all old memory. -/
import Derived.Test.YtblfobepaipebaaGreatDoorErrG
set_option linter.unusedVariables false
set_option linter.unusedSimpArgs false
set_option maxRecDepth 100000
namespace Go.Proofs.YtblfobepaipebaaGreatDoor
open Go.RowKit Go.Extern.Stop Go.Stop Go.Extern Go.Extern.Rtype

/-- The library's variable errors.errorType holds the type of error. -/
def ErrT (w : World) : Prop := w.cell? ⟨0, 0, none⟩ = some (.iface 195 (.agg #[.pointer (some ⟨7, 30, none⟩)]))
theorem ErrT.below {w w1 : World} (h : ErrT w) (hb : Below w.heap.size w w1) : ErrT w1 := bl_cell hb h
theorem ErrT.pos {w : World} (h : ErrT w) : 0 < w.heap.size := World.block_lt_of_cell? w ⟨0, 0, none⟩ h

theorem rlm (z : Sem Value) (f : TypeId → Addr → Nat → Nat → Sem Value) (v : Value) :
    ReflectliteValue.method z f #[v] = (do match ← ReflectliteValue.parts v with | none => z | some (t, a, fl) => f t a fl (fl % 32)) := rfl
theorem ex_valueOf (args : Array Value) (w : World) : (callFunc 63 args).run Tryz.prog w = ((ReflectliteValue.unpack (args.getD 0 (.tuple #[]))).run Tryz.prog w).andThen fun v w' => .ok (.value v) w' :=
  run_callFunc_extern (e := fun args => ReflectliteValue.unpack (args.getD 0 (.tuple #[]))) Tryz.func63 (by kernel_rfl) (by kernel_rfl) (by kernel_rfl) (by kernel_rfl) args w
theorem ex_type (args : Array Value) (w : World) : (callFunc 64 args).run Tryz.prog w = ((ReflectliteValue.methodAny (ReflectliteValue.valueError "reflectlite.Value.Type" 0) (fun t _ _ _ => ReflectliteType.toType t) args).run Tryz.prog w).andThen fun v w' => .ok (.value v) w' :=
  run_callFunc_extern Tryz.func64 (by kernel_rfl) (by kernel_rfl) (by kernel_rfl) (by kernel_rfl) args w
theorem ex_isNil (args : Array Value) (w : World) : (callFunc 65 args).run Tryz.prog w = ((ReflectliteValue.method (ReflectliteValue.valueError "reflectlite.Value.IsNil" 0) ReflectliteValue.isNil args).run Tryz.prog w).andThen fun v w' => .ok (.value v) w' :=
  run_callFunc_extern Tryz.func65 (by kernel_rfl) (by kernel_rfl) (by kernel_rfl) (by kernel_rfl) args w
theorem ex_kind (args : Array Value) (w : World) : (callFunc 297 args).run Tryz.prog w = ((ReflectliteType.abiMethod (fun t => do pure (.int .u8 (← kind t))) args).run Tryz.prog w).andThen fun v w' => .ok (.value v) w' :=
  run_callFunc_extern Tryz.func297 (by kernel_rfl) (by kernel_rfl) (by kernel_rfl) (by kernel_rfl) args w
theorem ex_elem (args : Array Value) (w : World) : (callFunc 313 args).run Tryz.prog w = ((ReflectliteType.method ReflectliteType.elem args).run Tryz.prog w).andThen fun v w' => .ok (.value v) w' :=
  run_callFunc_extern Tryz.func313 (by kernel_rfl) (by kernel_rfl) (by kernel_rfl) (by kernel_rfl) args w
theorem ex_implements (args : Array Value) (w : World) : (callFunc 314 args).run Tryz.prog w = ((ReflectliteType.relation "Implements" ReflectliteType.implements_ args).run Tryz.prog w).andThen fun v w' => .ok (.value v) w' :=
  run_callFunc_extern Tryz.func314 (by kernel_rfl) (by kernel_rfl) (by kernel_rfl) (by kernel_rfl) args w
theorem ex_assignable (args : Array Value) (w : World) : (callFunc 311 args).run Tryz.prog w = ((ReflectliteType.relation "AssignableTo" ReflectliteType.assignableTo args).run Tryz.prog w).andThen fun v w' => .ok (.value v) w' :=
  run_callFunc_extern Tryz.func311 (by kernel_rfl) (by kernel_rfl) (by kernel_rfl) (by kernel_rfl) args w

theorem fa_valueOf (t : Addr) (w : World) : (callFunc 63 #[.iface 69 (.pointer (some t))]).run Tryz.prog w
    = .ok (.value (.agg #[.pointer (some ⟨7, 69, none⟩), .pointer (some ⟨w.heap.size, 0, none⟩), .int .u64 150])) (w.alloc (.cells #[.pointer (some t)] 69)) := by
  rw [ex_valueOf]
  kernel_rfl
theorem fa_type (a : Addr) (w : World) : (callFunc 64 #[.agg #[.pointer (some ⟨7, 69, none⟩), .pointer (some a), .int .u64 150]]).run Tryz.prog w
    = .ok (.value (.iface 195 (.agg #[.pointer (some ⟨7, 69, none⟩)]))) w := by
  rw [ex_type]
  kernel_rfl
theorem fa_methodKind (h : Value) (w : World) : (Go.method 436 195 (.agg #[h]) "Kind").run Tryz.prog w = .ok (297, h) w := by kernel_rfl
theorem fa_methodElem (h : Value) (w : World) : (Go.method 436 195 (.agg #[h]) "Elem").run Tryz.prog w = .ok (313, .agg #[h]) w := by kernel_rfl
theorem fa_methodImplements (h : Value) (w : World) : (Go.method 436 195 (.agg #[h]) "Implements").run Tryz.prog w = .ok (314, .agg #[h]) w := by kernel_rfl
theorem fa_methodAssignableTo (h : Value) (w : World) : (Go.method 436 195 (.agg #[h]) "AssignableTo").run Tryz.prog w = .ok (311, .agg #[h]) w := by kernel_rfl
theorem fa_kindP (w : World) : (callFunc 297 #[.pointer (some ⟨7, 69, none⟩)]).run Tryz.prog w = .ok (.value (.int .u8 22)) w := by
  rw [ex_kind]
  kernel_rfl
theorem fa_kindF (w : World) : (callFunc 297 #[.pointer (some ⟨7, 67, none⟩)]).run Tryz.prog w = .ok (.value (.int .u8 25)) w := by
  rw [ex_kind]
  kernel_rfl
theorem fa_parts (a : Addr) (w : World) : (ReflectliteValue.parts (.agg #[.pointer (some ⟨7, 69, none⟩), .pointer (some a), .int .u64 150])).run Tryz.prog w = .ok (some (69, a, 150)) w := by kernel_rfl
theorem fa_isNil (a p : Addr) (w : World) (ha : w.cell? a = some (.pointer (some p))) :
    (callFunc 65 #[.agg #[.pointer (some ⟨7, 69, none⟩), .pointer (some a), .int .u64 150]]).run Tryz.prog w = .ok (.value (.bool false)) w := by
  rw [ex_isNil, rlm]
  simp only [Sem.run_bind, fa_parts, Result.andThen]
  simp [ReflectliteValue.isNil, loadVar, isAgg, underlying, Tryz.underlying69, ha, Result.andThen]
theorem fa_elem (w : World) : (callFunc 313 #[.agg #[.pointer (some ⟨7, 69, none⟩)]]).run Tryz.prog w = .ok (.value (.iface 195 (.agg #[.pointer (some ⟨7, 67, none⟩)]))) w := by
  rw [ex_elem]
  kernel_rfl
theorem fa_implements (w : World) : (callFunc 314 #[.agg #[.pointer (some ⟨7, 67, none⟩)], .iface 195 (.agg #[.pointer (some ⟨7, 30, none⟩)])]).run Tryz.prog w = .ok (.value (.bool true)) w := by
  rw [ex_implements]
  kernel_rfl
theorem er_assignable (w : World) : (callFunc 311 #[.agg #[.pointer (some ⟨7, 65, none⟩)], .iface 195 (.agg #[.pointer (some ⟨7, 67, none⟩)])]).run Tryz.prog w = .ok (.value (.bool false)) w := by
  rw [ex_assignable]
  kernel_rfl
theorem wr_amount_assignable (w : World) : (callFunc 311 #[.agg #[.pointer (some ⟨7, 270, none⟩)], .iface 195 (.agg #[.pointer (some ⟨7, 67, none⟩)])]).run Tryz.prog w = .ok (.value (.bool false)) w := by
  rw [ex_assignable]
  kernel_rfl
theorem wr_codes_assignable (w : World) : (callFunc 311 #[.agg #[.pointer (some ⟨7, 211, none⟩)], .iface 195 (.agg #[.pointer (some ⟨7, 67, none⟩)])]).run Tryz.prog w = .ok (.value (.bool false)) w := by
  rw [ex_assignable]
  kernel_rfl
theorem wr_notice_assignable (w : World) : (callFunc 311 #[.agg #[.pointer (some ⟨7, 75, none⟩)], .iface 195 (.agg #[.pointer (some ⟨7, 67, none⟩)])]).run Tryz.prog w = .ok (.value (.bool false)) w := by
  rw [ex_assignable]
  kernel_rfl

/-- errors.as of an api.Errno: false. -/
theorem as0_no (n : Int) (v : Value) (w : World) (c0 c1 c2 : Value) :
    Calls Tryz.prog 66 #[.iface 65 (.int .i64 n), v, .agg #[c0, c1, c2], .iface 195 (.agg #[.pointer (some ⟨7, 67, none⟩)])] w fun e w' => e = .returned (.bool false) ∧ Below w.heap.size w w' := by
  have tT := er_typeOf
  have mA := fa_methodAssignableTo
  have aA := er_assignable
  have nI := er_noAs
  have nU := er_noUnwrap
  have nV := er_noUnwraps

  go_enter Tryz.func66, Tryz.ntmps66
  go_wp2
  refine wp_loop_rounds 1 ?_
  rw [rounds_succ]
  go_wp2
  go_ret
  exact ⟨rfl, by repeat (first | exact bl_refl _ | apply bl_alloc | apply bl_drew)⟩
theorem as0_amount (s : ByteArray) (n : Int) (v : Value) (w : World) (c0 c1 c2 : Value) :
    Calls Tryz.prog 66 #[.iface 270 (.agg #[.string s, .int .i64 n]), v, .agg #[c0, c1, c2], .iface 195 (.agg #[.pointer (some ⟨7, 67, none⟩)])] w fun e w' => e = .returned (.bool false) ∧ Below w.heap.size w w' := by
  have tT := er_typeOf
  have tW := wr_amount_typeOf
  have mA := fa_methodAssignableTo
  have aA := er_assignable
  have aW := wr_amount_assignable
  have nI := er_noAs
  have nU := er_noUnwrap
  have nV := er_noUnwraps
  have wI := wr_amount_noAs
  have wU := wr_amount_hasUnwrap
  have wM := wr_amount_method
  have hni : ∀ w, (binOp .eql 30 (.iface 65 (.int .i64 n)) .nilIface).run Tryz.prog w = .ok (.bool false) w := fun w => by first | kernel_rfl
  go_enter Tryz.func66, Tryz.ntmps66
  go_wp2
  refine wp_loop_rounds 2 ?_
  rw [rounds_succ]
  go_wp2_with (go_at_call 325; refine (wr_amount_Unwrap s n _).mono ?_; rintro e w1 ⟨rfl, hb⟩)
  rw [rounds_succ]
  go_wp2
  go_ret
  exact ⟨rfl, bl_then (by repeat (first | exact bl_refl _ | apply bl_alloc | apply bl_drew)) hb⟩
theorem as0_codes (s : ByteArray) (n : Int) (v : Value) (w : World) (c0 c1 c2 : Value) :
    Calls Tryz.prog 66 #[.iface 211 (.agg #[.string s, .int .i64 n]), v, .agg #[c0, c1, c2], .iface 195 (.agg #[.pointer (some ⟨7, 67, none⟩)])] w fun e w' => e = .returned (.bool false) ∧ Below w.heap.size w w' := by
  have tT := er_typeOf
  have tW := wr_codes_typeOf
  have mA := fa_methodAssignableTo
  have aA := er_assignable
  have aW := wr_codes_assignable
  have nI := er_noAs
  have nU := er_noUnwrap
  have nV := er_noUnwraps
  have wI := wr_codes_noAs
  have wU := wr_codes_hasUnwrap
  have wM := wr_codes_method
  have hni : ∀ w, (binOp .eql 30 (.iface 65 (.int .i64 n)) .nilIface).run Tryz.prog w = .ok (.bool false) w := fun w => by first | kernel_rfl
  go_enter Tryz.func66, Tryz.ntmps66
  go_wp2
  refine wp_loop_rounds 2 ?_
  rw [rounds_succ]
  go_wp2_with (go_at_call 322; refine (wr_codes_Unwrap s n _).mono ?_; rintro e w1 ⟨rfl, hb⟩)
  rw [rounds_succ]
  go_wp2
  go_ret
  exact ⟨rfl, bl_then (by repeat (first | exact bl_refl _ | apply bl_alloc | apply bl_drew)) hb⟩
theorem as0_notice (s : ByteArray) (n : Int) (v : Value) (w : World) (c0 c1 c2 : Value) :
    Calls Tryz.prog 66 #[.iface 75 (.agg #[.string s, .int .i64 n]), v, .agg #[c0, c1, c2], .iface 195 (.agg #[.pointer (some ⟨7, 67, none⟩)])] w fun e w' => e = .returned (.bool false) ∧ Below w.heap.size w w' := by
  have tT := er_typeOf
  have tW := wr_notice_typeOf
  have mA := fa_methodAssignableTo
  have aA := er_assignable
  have aW := wr_notice_assignable
  have nI := er_noAs
  have nU := er_noUnwrap
  have nV := er_noUnwraps
  have wI := wr_notice_noAs
  have wU := wr_notice_hasUnwrap
  have wM := wr_notice_method
  have hni : ∀ w, (binOp .eql 30 (.iface 65 (.int .i64 n)) .nilIface).run Tryz.prog w = .ok (.bool false) w := fun w => by first | kernel_rfl
  go_enter Tryz.func66, Tryz.ntmps66
  go_wp2
  refine wp_loop_rounds 2 ?_
  rw [rounds_succ]
  go_wp2_with (go_at_call 304; refine (wr_notice_Unwrap s n _).mono ?_; rintro e w1 ⟨rfl, hb⟩)
  rw [rounds_succ]
  go_wp2
  go_ret
  exact ⟨rfl, bl_then (by repeat (first | exact bl_refl _ | apply bl_alloc | apply bl_drew)) hb⟩

/-- errors.As of an error that is no nil, by what errors.as answers. -/
theorem as_false (tE : TypeId) (vE : Value) (t : Addr) (w : World) (hg : ErrT w)
    (has : ∀ (c0 c1 c2 : Value) (W : World), Calls Tryz.prog 66 #[.iface tE vE, .iface 69 (.pointer (some t)), .agg #[c0, c1, c2], .iface 195 (.agg #[.pointer (some ⟨7, 67, none⟩)])] W fun e w' => e = .returned (.bool false) ∧ Below W.heap.size W w') :
    Calls Tryz.prog 30 #[.iface tE vE, .iface 69 (.pointer (some t))] w fun e w' => e = .returned (.bool false) ∧ Below w.heap.size w w' := by
  have f6 := fa_valueOf
  have f7 := fa_type
  have mK := fa_methodKind
  have mE := fa_methodElem
  have mI := fa_methodImplements
  have kP := fa_kindP
  have kF := fa_kindF
  have eF := fa_elem
  have iF := fa_implements
  have n8 := fa_isNil ⟨w.heap.size, 0, none⟩ t ((w.alloc (.cells #[.pointer (some t)] 69)).alloc (.cells #[.pointer (some ⟨7, 69, none⟩), .pointer (some ⟨w.heap.size, 0, none⟩), .int .u64 150] 107)) (by simp)
  have hlt := ErrT.pos hg
  have hg2 : ((w.alloc (.cells #[.pointer (some t)] 69)).alloc (.cells #[.pointer (some ⟨7, 69, none⟩), .pointer (some ⟨w.heap.size, 0, none⟩), .int .u64 150] 107)).cell? ⟨0, 0, none⟩ = some (.iface 195 (.agg #[.pointer (some ⟨7, 30, none⟩)])) :=
    (hg.below (bl_alloc (bl_alloc (bl_refl w) _) _))
  have hne : ∀ w, (binOp .eql 30 (.iface tE vE) .nilIface).run Tryz.prog w = .ok (.bool false) w := fun w => by kernel_rfl
  clear hg
  go_enter Tryz.func30, Tryz.ntmps30
  go_wp2_with (go_at_call 66; refine (has _ _ _ _).mono ?_; rintro e w1 ⟨rfl, hb⟩)
  go_ret
  exact ⟨rfl, bl_then (by repeat (first | exact bl_refl _ | apply bl_alloc | apply bl_drew)) hb⟩
end Go.Proofs.YtblfobepaipebaaGreatDoor
