/- In a region that draws its order a load whose answer is known in every world that meets a condition may be taken first. -/
import Derived.Test.YtblfobepaipebaaGreatDoorProg
import Derived.WalkKit
import Derived.Deep.RegionHeld3
namespace Go.Proofs.YtblfobepaipebaaGreatDoor
open Go.RowKit

theorem yieldsIf_load_known {P : Program} {ops : Array Oper} {S : World → Prop} {op : Oper} {a : Act} (hw : Region.wanted op (yielded ops a.tmps) = true) (ty : TypeId) (x : Operand) (ho : op.op = .load ty x)
    (ad : Addr) (v : Value) (hx : a.eval x = .pointer (some ad)) (hS : ∀ w, S w → (loadVar ty ad).run P w = .ok v w) : YieldsIf P ops S op v a :=
  .inl ⟨hw, fun w hw' => by
    unfold execOp
    simp only [ho, hx, Instr.loadAt, Instr.sureAddr, Sem.run_bind, Sem.run_pure, Result.andThen_ok, hS w hw']⟩
end Go.Proofs.YtblfobepaipebaaGreatDoor
