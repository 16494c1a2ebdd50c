/- Go functions come to Lean functions of the same names: walks, written by a program of the session (wip/pp.py). No condition beyond those named in each theorem. -/
import Derived.Test.YtdbihmkeljakeaaProg
import Derived.Below
import Derived.Deep.Draws
import Derived.Deep.AppendLies
import Derived.Maps.AppendAt
import Derived.OwnWalk
import Derived.Laws.BytesArg
import Derived.Laws.MakeOwn
import Derived.Laws.OwnMore
import Derived.Deep.OwnRows
import Derived.Tactics
import Derived.Lib.ConvBytes
import Derived.Laws.Slices
import Derived.WalkKit
import Derived.KernelRfl
import Derived.RowKit3
import Derived.Deep.LoopGhost
import Derived.Deep.QuietTactic
import Derived.BigQuiet
import Derived.WideLaws
import Derived.Deep.DeepCutAuto
import Derived.Deep.CutBlock
import Derived.Deep.RegionHeld3
import Derived.Laws.Rows
import Derived.Lib.AppendStr
import Derived.ArgAppend
import Derived.Laws.IdiomCopy
import Derived.OrdersHeld
import Derived.Laws.BitsLemmas
import Derived.RowKit
import Derived.Test.YtdbihmkeljakeaaUs
import Derived.Test.YtdbihmkeljakeaaSh
import Derived.Lib.Hide
import Derived.Lib.IndexAny
import Derived.Lib.Bytes
import Derived.Lib.ConvBytes
import Derived.Test.YtdbihmkeljakeaaWWords
import Derived.Test.YtdbihmkeljakeaaWLast
import Derived.Test.YtdbihmkeljakeaaWTab
import Derived.Test.YtdbihmkeljakeaaWFour
import Derived.Test.YtdbihmkeljakeaaWQPut
import Derived.Test.YtdbihmkeljakeaaWApart
import Derived.Test.YtdbihmkeljakeaaWArr
import Derived.Test.YtdbihmkeljakeaaWZeros
import Derived.Test.YtdbihmkeljakeaaWFoot
import Derived.Test.YtdbihmkeljakeaaWKept
import Derived.Test.YtdbihmkeljakeaaWShare
import Derived.Test.YtdbihmkeljakeaaWN
import Derived.Test.YtdbihmkeljakeaaWFootNe
import Derived.Test.YtdbihmkeljakeaaWAt
import Derived.Test.YtdbihmkeljakeaaWEqStruct
import Derived.Test.YtdbihmkeljakeaaWRepsOne
import Derived.Test.YtdbihmkeljakeaaWInv
import Derived.Test.YtdbihmkeljakeaaWInvWords
import Derived.Test.YtdbihmkeljakeaaWGuard
import Derived.Test.YtdbihmkeljakeaaWNEv
import Derived.Test.YtdbihmkeljakeaaWMore
import Derived.Test.YtdbihmkeljakeaaConv
namespace Go.Proofs.Ytdbihmkeljakeaa.PPct
open Go.RowKit Go.Proofs.YtdbihmkeljakeaaW.PrintWords Go.Proofs.YtdbihmkeljakeaaW.PrintLast Go.Proofs.YtdbihmkeljakeaaW.PrintMore
attribute [local go_sem] max2_int min2_int max_two min_two max_three min_three max_four min_four   -- for this text's walks alone
set_option linter.unusedVariables false
set_option linter.unusedSimpArgs false



def errW : Option Int → Value
  | none => .nilIface
  | some c => .iface 0 (.int .i64 c)
theorem errW_none : errW none = .nilIface := rfl
theorem errW_some (c : Int) : errW (some c) = .iface 0 (.int .i64 c) := rfl

theorem info5 : (Try.prog.info? 5).map (fun i => (i.zero, i.size, i.bytes)) = some (some (.int .u8 0), 1, 1) := by kernel_rfl
theorem info9 : (Try.prog.info? 9).map (fun i => (i.zero, i.size, i.bytes)) = some (some (.string ⟨#[]⟩), 1, 16) := by kernel_rfl
theorem info21 : (Try.prog.info? 21).map (fun i => (i.zero, i.size, i.bytes)) = some (some (.int .i32 0), 1, 4) := by kernel_rfl
-- the values' own types

end Go.Proofs.Ytdbihmkeljakeaa.PPct
