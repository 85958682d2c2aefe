/- Functions of the program as Lean functions, with their contracts, written by a program of mine over the kit's printer and in part by hand. No condition of its own. -/
import Derived.Test.YtgmkfhgebinfgaaProg
import Derived.Below
import Derived.Deep.Draws
import Derived.Deep.AppendLies
import Derived.Maps.AppendAt
import Derived.OwnWalk
import Derived.Laws.BytesArg
import Derived.Laws.MakeOwn
import Derived.Laws.OwnMore
import Derived.Deep.OwnRows
import Derived.Tactics
import Derived.Lib.ConvBytes
import Derived.Laws.Slices
import Derived.WalkKit
import Derived.KernelRfl
import Derived.RowKit3
import Derived.Deep.LoopGhost
import Derived.Deep.QuietTactic
import Derived.BigQuiet
import Derived.WideLaws
import Derived.Deep.DeepCutAuto
import Derived.Deep.CutBlock
import Derived.Deep.RegionHeld3
import Derived.Laws.Rows
import Derived.Lib.AppendStr
import Derived.ArgAppend
import Derived.Laws.IdiomCopy
import Derived.OrdersHeld
import Derived.Laws.BitsLemmas
import Derived.RowKit
import Derived.Test.YtgmkfhgebinfgaaWWords
import Derived.Test.YtgmkfhgebinfgaaWLast
import Derived.Test.YtgmkfhgebinfgaaWTab
import Derived.Test.YtgmkfhgebinfgaaWFour
import Derived.Test.YtgmkfhgebinfgaaWQPut
import Derived.Test.YtgmkfhgebinfgaaWApart
import Derived.Test.YtgmkfhgebinfgaaWArr
import Derived.Test.YtgmkfhgebinfgaaWZeros
import Derived.Test.YtgmkfhgebinfgaaWFoot
import Derived.Test.YtgmkfhgebinfgaaWKept
import Derived.Test.YtgmkfhgebinfgaaWShare
import Derived.Test.YtgmkfhgebinfgaaWN
import Derived.Test.YtgmkfhgebinfgaaWFootNe
import Derived.Test.YtgmkfhgebinfgaaWAt
import Derived.Test.YtgmkfhgebinfgaaWEqStruct
import Derived.Test.YtgmkfhgebinfgaaWRepsOne
import Derived.Test.YtgmkfhgebinfgaaWInv
import Derived.Test.YtgmkfhgebinfgaaWInvWords
import Derived.Test.YtgmkfhgebinfgaaWGuard
import Derived.Test.YtgmkfhgebinfgaaWNEv
import Derived.Test.YtgmkfhgebinfgaaWMore
namespace Go.Proofs.Ytgmkfhgebinfgaa.PFnJobTask
open Go.RowKit Go.Proofs.YtgmkfhgebinfgaaW.PrintWords Go.Proofs.YtgmkfhgebinfgaaW.PrintLast Go.Proofs.YtgmkfhgebinfgaaW.PrintMore
attribute [local go_sem] max2_int min2_int max_two min_two max_three min_three max_four min_four   -- for this text's walks alone
set_option linter.unusedVariables false
set_option linter.unusedSimpArgs false



def errW : Option Int → Value
 | none => .nilIface
 | some c => .iface 0 (.int .i64 c)
theorem errW_none : errW none = .nilIface := rfl
theorem errW_some (c : Int) : errW (some c) = .iface 0 (.int .i64 c) := rfl

theorem info3 : (Try.prog.info? 3).map (fun i => (i.zero, i.size, i.bytes)) = some (some (.int .i64 0), 1, 8) := by kernel_rfl
theorem info5 : (Try.prog.info? 5).map (fun i => (i.zero, i.size, i.bytes)) = some (some (.int .u8 0), 1, 1) := by kernel_rfl
-- the values' own types

end Go.Proofs.Ytgmkfhgebinfgaa.PFnJobTask
-- thin
