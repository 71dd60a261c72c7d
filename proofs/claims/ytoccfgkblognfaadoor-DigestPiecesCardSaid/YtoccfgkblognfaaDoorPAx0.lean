/- Contracts of Go functions that the statement reaches: each call answers as a plain Lean function does. Conditions: those of each theorem. Written by the session's own program wip/tools/xprint.py. -/
import Derived.Test.YtoccfgkblognfaaDoorProg
import Derived.Below
import Derived.Deep.Draws
import Derived.Deep.AppendLies
import Derived.Maps.AppendAt
import Derived.OwnWalk
import Derived.Laws.BytesArg
import Derived.Laws.MakeOwn
import Derived.Laws.OwnMore
import Derived.Deep.OwnRows
import Derived.Tactics
import Derived.Lib.ConvBytes
import Derived.Laws.Slices
import Derived.WalkKit
import Derived.KernelRfl
import Derived.RowKit3
import Derived.Deep.LoopGhost
import Derived.Deep.QuietTactic
import Derived.BigQuiet
import Derived.WideLaws
import Derived.Deep.DeepCutAuto
import Derived.Deep.CutBlock
import Derived.Deep.RegionHeld3
import Derived.Laws.Rows
import Derived.Lib.AppendStr
import Derived.ArgAppend
import Derived.Laws.IdiomCopy
import Derived.OrdersHeld
import Derived.Laws.BitsLemmas
import Derived.RowKit
import Derived.Test.YtoccfgkblognfaaDoorWWords
import Derived.Test.YtoccfgkblognfaaDoorWLast
import Derived.Test.YtoccfgkblognfaaDoorWTab
import Derived.Test.YtoccfgkblognfaaDoorWFour
import Derived.Test.YtoccfgkblognfaaDoorWQPut
import Derived.Test.YtoccfgkblognfaaDoorWApart
import Derived.Test.YtoccfgkblognfaaDoorWArr
import Derived.Test.YtoccfgkblognfaaDoorWZeros
import Derived.Test.YtoccfgkblognfaaDoorWFoot
import Derived.Test.YtoccfgkblognfaaDoorWKept
import Derived.Test.YtoccfgkblognfaaDoorWShare
import Derived.Test.YtoccfgkblognfaaDoorWN
import Derived.Test.YtoccfgkblognfaaDoorWFootNe
import Derived.Test.YtoccfgkblognfaaDoorWAt
import Derived.Test.YtoccfgkblognfaaDoorWEqStruct
import Derived.Test.YtoccfgkblognfaaDoorWRepsOne
import Derived.Test.YtoccfgkblognfaaDoorWInv
import Derived.Test.YtoccfgkblognfaaDoorWInvWords
import Derived.Test.YtoccfgkblognfaaDoorWGuard
import Derived.Test.YtoccfgkblognfaaDoorWNEv
import Derived.Test.YtoccfgkblognfaaDoorWMore
namespace Go.Proofs.YtoccfgkblognfaaDoor.PA
open Go.RowKit Go.Proofs.YtoccfgkblognfaaDoorW.PrintWords Go.Proofs.YtoccfgkblognfaaDoorW.PrintLast Go.Proofs.YtoccfgkblognfaaDoorW.PrintMore
attribute [local go_sem] max2_int min2_int max_two min_two max_three min_three max_four min_four   -- for this text's walks alone
set_option linter.unusedVariables false
set_option linter.unusedSimpArgs false



def errW : Option Int → Value
  | none => .nilIface
  | some c => .iface 0 (.int .i64 c)
theorem errW_none : errW none = .nilIface := rfl
theorem errW_some (c : Int) : errW (some c) = .iface 0 (.int .i64 c) := rfl


theorem info5 : (Tryd.prog.info? 5).map (fun i => (i.zero, i.size, i.bytes)) = some (some (.int .u8 0), 1, 1) := by kernel_rfl
theorem info39 : (Tryd.prog.info? 39).map (fun i => (i.zero, i.size, i.bytes)) = some (some (.int .u32 0), 1, 4) := by kernel_rfl
-- the values' own types

end Go.Proofs.YtoccfgkblognfaaDoor.PA
