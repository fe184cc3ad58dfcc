/- Functions of the law AmountTexts as Lean functions, and that the program's text answers as they do: the lines that the kit's print wrote for this law, those functions left out whose lines fell. -/
import Derived.Test.YtccnfklemalmeaaDoorProg
import Derived.Below
import Derived.Deep.Draws
import Derived.Deep.AppendLies
import Derived.Maps.AppendAt
import Derived.OwnWalk
import Derived.Laws.BytesArg
import Derived.Laws.MakeOwn
import Derived.Laws.OwnMore
import Derived.Deep.OwnRows
import Derived.Tactics
import Derived.Lib.ConvBytes
import Derived.Laws.Slices
import Derived.WalkKit
import Derived.KernelRfl
import Derived.RowKit3
import Derived.Deep.LoopGhost
import Derived.Deep.QuietTactic
import Derived.BigQuiet
import Derived.WideLaws
import Derived.Deep.DeepCutAuto
import Derived.Deep.CutBlock
import Derived.Deep.RegionHeld3
import Derived.Laws.Rows
import Derived.Lib.AppendStr
import Derived.ArgAppend
import Derived.Laws.IdiomCopy
import Derived.OrdersHeld
import Derived.Laws.BitsLemmas
import Derived.RowKit
import Derived.Test.YtccnfklemalmeaaDoorWWords
import Derived.Test.YtccnfklemalmeaaDoorWLast
import Derived.Test.YtccnfklemalmeaaDoorWTab
import Derived.Test.YtccnfklemalmeaaDoorWFour
import Derived.Test.YtccnfklemalmeaaDoorWQPut
import Derived.Test.YtccnfklemalmeaaDoorWApart
import Derived.Test.YtccnfklemalmeaaDoorWArr
import Derived.Test.YtccnfklemalmeaaDoorWZeros
import Derived.Test.YtccnfklemalmeaaDoorWFoot
import Derived.Test.YtccnfklemalmeaaDoorWKept
import Derived.Test.YtccnfklemalmeaaDoorWShare
import Derived.Test.YtccnfklemalmeaaDoorWN
import Derived.Test.YtccnfklemalmeaaDoorWFootNe
import Derived.Test.YtccnfklemalmeaaDoorWAt
import Derived.Test.YtccnfklemalmeaaDoorWEqStruct
import Derived.Test.YtccnfklemalmeaaDoorWRepsOne
import Derived.Test.YtccnfklemalmeaaDoorWInv
import Derived.Test.YtccnfklemalmeaaDoorWInvWords
import Derived.Test.YtccnfklemalmeaaDoorWGuard
import Derived.Test.YtccnfklemalmeaaDoorWNEv
import Derived.Test.YtccnfklemalmeaaDoorWMore
namespace Go.Proofs.YtccnfklemalmeaaDoor.PAmountTexts
open Go.RowKit Go.Proofs.YtccnfklemalmeaaDoorW.PrintWords Go.Proofs.YtccnfklemalmeaaDoorW.PrintLast Go.Proofs.YtccnfklemalmeaaDoorW.PrintMore
attribute [local go_sem] max2_int min2_int max_two min_two max_three min_three max_four min_four   -- for this text's walks alone
set_option linter.unusedVariables false
set_option linter.unusedSimpArgs false



def errW : Option Int → Value
  | none => .nilIface
  | some c => .iface 95 (.int .i64 c)
theorem errW_none : errW none = .nilIface := rfl
theorem errW_some (c : Int) : errW (some c) = .iface 95 (.int .i64 c) := rfl

theorem info5 : (Tryd.prog.info? 5).map (fun i => (i.zero, i.size, i.bytes)) = some (some (.int .u8 0), 1, 1) := by kernel_rfl
-- the values' own types

end Go.Proofs.YtccnfklemalmeaaDoor.PAmountTexts
