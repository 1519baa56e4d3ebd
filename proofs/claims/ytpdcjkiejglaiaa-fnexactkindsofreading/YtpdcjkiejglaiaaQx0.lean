/- Laid by a program of this session (wip/tools/own_print.py) over the translation of this seat: contracts of the functions that the statement reaches. -/
import Derived.Test.YtpdcjkiejglaiaaProg
import Derived.Below
import Derived.Deep.Draws
import Derived.Deep.AppendLies
import Derived.Maps.AppendAt
import Derived.OwnWalk
import Derived.Laws.BytesArg
import Derived.Laws.MakeOwn
import Derived.Laws.OwnMore
import Derived.Deep.OwnRows
import Derived.Tactics
import Derived.Lib.ConvBytes
import Derived.Laws.Slices
import Derived.WalkKit
import Derived.KernelRfl
import Derived.RowKit3
import Derived.Deep.LoopGhost
import Derived.Deep.QuietTactic
import Derived.BigQuiet
import Derived.WideLaws
import Derived.Deep.DeepCutAuto
import Derived.Deep.CutBlock
import Derived.Deep.RegionHeld3
import Derived.Laws.Rows
import Derived.Lib.AppendStr
import Derived.ArgAppend
import Derived.Laws.IdiomCopy
import Derived.OrdersHeld
import Derived.Laws.BitsLemmas
import Derived.RowKit
import Derived.Test.YtpdcjkiejglaiaaWWords
import Derived.Test.YtpdcjkiejglaiaaWLast
import Derived.Test.YtpdcjkiejglaiaaWTab
import Derived.Test.YtpdcjkiejglaiaaWFour
import Derived.Test.YtpdcjkiejglaiaaWQPut
import Derived.Test.YtpdcjkiejglaiaaWApart
import Derived.Test.YtpdcjkiejglaiaaWArr
import Derived.Test.YtpdcjkiejglaiaaWZeros
import Derived.Test.YtpdcjkiejglaiaaWFoot
import Derived.Test.YtpdcjkiejglaiaaWKept
import Derived.Test.YtpdcjkiejglaiaaWShare
import Derived.Test.YtpdcjkiejglaiaaWN
import Derived.Test.YtpdcjkiejglaiaaWFootNe
import Derived.Test.YtpdcjkiejglaiaaWAt
import Derived.Test.YtpdcjkiejglaiaaWEqStruct
import Derived.Test.YtpdcjkiejglaiaaWRepsOne
import Derived.Test.YtpdcjkiejglaiaaWInv
import Derived.Test.YtpdcjkiejglaiaaWInvWords
import Derived.Test.YtpdcjkiejglaiaaWGuard
import Derived.Test.YtpdcjkiejglaiaaWNEv
import Derived.Test.YtpdcjkiejglaiaaWMore
namespace Go.Proofs.Ytpdcjkiejglaiaa.Q
open Go.RowKit Go.Proofs.YtpdcjkiejglaiaaW.PrintWords Go.Proofs.YtpdcjkiejglaiaaW.PrintLast Go.Proofs.YtpdcjkiejglaiaaW.PrintMore
attribute [local go_sem] max2_int min2_int max_two min_two max_three min_three max_four min_four   -- for this text's walks alone
set_option linter.unusedVariables false
set_option linter.unusedSimpArgs false



def errW : Option Int → Value
  | none => .nilIface
  | some c => .iface 0 (.int .i64 c)
theorem errW_none : errW none = .nilIface := rfl
theorem errW_some (c : Int) : errW (some c) = .iface 0 (.int .i64 c) := rfl

theorem info3 : (Try.prog.info? 3).map (fun i => (i.zero, i.size, i.bytes)) = some (some (.int .i64 0), 1, 8) := by kernel_rfl
theorem info4 : (Try.prog.info? 4).map (fun i => (i.zero, i.size, i.bytes)) = some (some (.bool false), 1, 1) := by kernel_rfl
theorem info5 : (Try.prog.info? 5).map (fun i => (i.zero, i.size, i.bytes)) = some (some (.int .u8 0), 1, 1) := by kernel_rfl
theorem info9 : (Try.prog.info? 9).map (fun i => (i.zero, i.size, i.bytes)) = some (some (.string ⟨#[]⟩), 1, 16) := by kernel_rfl
-- the values' own types

end Go.Proofs.Ytpdcjkiejglaiaa.Q
