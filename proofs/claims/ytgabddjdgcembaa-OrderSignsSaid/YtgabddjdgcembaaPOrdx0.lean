/- Go functions come to Lean functions of the same names: walks, written by a program of the session (wip/pp.py). No condition beyond those named in each theorem. -/
import Derived.Test.YtgabddjdgcembaaProg
import Derived.Below
import Derived.Deep.Draws
import Derived.Deep.AppendLies
import Derived.Maps.AppendAt
import Derived.OwnWalk
import Derived.Laws.BytesArg
import Derived.Laws.MakeOwn
import Derived.Laws.OwnMore
import Derived.Deep.OwnRows
import Derived.Tactics
import Derived.Lib.ConvBytes
import Derived.Laws.Slices
import Derived.WalkKit
import Derived.KernelRfl
import Derived.RowKit3
import Derived.Deep.LoopGhost
import Derived.Deep.QuietTactic
import Derived.BigQuiet
import Derived.WideLaws
import Derived.Deep.DeepCutAuto
import Derived.Deep.CutBlock
import Derived.Deep.RegionHeld3
import Derived.Laws.Rows
import Derived.Lib.AppendStr
import Derived.ArgAppend
import Derived.Laws.IdiomCopy
import Derived.OrdersHeld
import Derived.Laws.BitsLemmas
import Derived.RowKit
import Derived.WalkSpells
import Derived.Lib.Hide
import Derived.Test.YtgabddjdgcembaaWWords
import Derived.Test.YtgabddjdgcembaaWLast
import Derived.Test.YtgabddjdgcembaaWTab
import Derived.Test.YtgabddjdgcembaaWFour
import Derived.Test.YtgabddjdgcembaaWQPut
import Derived.Test.YtgabddjdgcembaaWApart
import Derived.Test.YtgabddjdgcembaaWArr
import Derived.Test.YtgabddjdgcembaaWZeros
import Derived.Test.YtgabddjdgcembaaWFoot
import Derived.Test.YtgabddjdgcembaaWKept
import Derived.Test.YtgabddjdgcembaaWShare
import Derived.Test.YtgabddjdgcembaaWN
import Derived.Test.YtgabddjdgcembaaWFootNe
import Derived.Test.YtgabddjdgcembaaWAt
import Derived.Test.YtgabddjdgcembaaWEqStruct
import Derived.Test.YtgabddjdgcembaaWRepsOne
import Derived.Test.YtgabddjdgcembaaWInv
import Derived.Test.YtgabddjdgcembaaWInvWords
import Derived.Test.YtgabddjdgcembaaWGuard
import Derived.Test.YtgabddjdgcembaaWNEv
import Derived.Test.YtgabddjdgcembaaWMore
import Derived.Test.YtgabddjdgcembaaConv
namespace Go.Proofs.Ytgabddjdgcembaa.POrd
open Go.RowKit Go.Proofs.YtgabddjdgcembaaW.PrintWords Go.Proofs.YtgabddjdgcembaaW.PrintLast Go.Proofs.YtgabddjdgcembaaW.PrintMore
attribute [local go_sem] max2_int min2_int max_two min_two max_three min_three max_four min_four   -- for this text's walks alone
set_option linter.unusedVariables false
set_option linter.unusedSimpArgs false



def errW : Option Int → Value
  | none => .nilIface
  | some c => .iface 0 (.int .i64 c)
theorem errW_none : errW none = .nilIface := rfl
theorem errW_some (c : Int) : errW (some c) = .iface 0 (.int .i64 c) := rfl

theorem info5 : (Try.prog.info? 5).map (fun i => (i.zero, i.size, i.bytes)) = some (some (.int .u8 0), 1, 1) := by kernel_rfl
theorem info9 : (Try.prog.info? 9).map (fun i => (i.zero, i.size, i.bytes)) = some (some (.string ⟨#[]⟩), 1, 16) := by kernel_rfl
theorem info21 : (Try.prog.info? 21).map (fun i => (i.zero, i.size, i.bytes)) = some (some (.int .i32 0), 1, 4) := by kernel_rfl
theorem info41 : (Try.prog.info? 41).map (fun i => (i.zero, i.size, i.bytes)) = some (some (.int .u16 0), 1, 2) := by kernel_rfl
-- the values' own types

end Go.Proofs.Ytgabddjdgcembaa.POrd
