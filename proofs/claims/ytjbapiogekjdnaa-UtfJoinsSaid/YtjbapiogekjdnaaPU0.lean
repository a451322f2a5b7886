/- Printed by an own program: functions, and proofs that the program's calls come to them. -/
import Derived.Test.YtjbapiogekjdnaaProg
import Derived.Below
import Derived.Deep.Draws
import Derived.Deep.AppendLies
import Derived.Maps.AppendAt
import Derived.OwnWalk
import Derived.Laws.BytesArg
import Derived.Laws.MakeOwn
import Derived.Laws.OwnMore
import Derived.Deep.OwnRows
import Derived.Tactics
import Derived.Lib.ConvBytes
import Derived.Laws.Slices
import Derived.WalkKit
import Derived.KernelRfl
import Derived.RowKit3
import Derived.Deep.LoopGhost
import Derived.Deep.QuietTactic
import Derived.BigQuiet
import Derived.WideLaws
import Derived.Deep.DeepCutAuto
import Derived.Deep.CutBlock
import Derived.Deep.RegionHeld3
import Derived.Laws.Rows
import Derived.Lib.AppendStr
import Derived.ArgAppend
import Derived.Laws.IdiomCopy
import Derived.OrdersHeld
import Derived.Laws.BitsLemmas
import Derived.RowKit
import Derived.Test.YtjbapiogekjdnaaWWords
import Derived.Test.YtjbapiogekjdnaaWLast
import Derived.Test.YtjbapiogekjdnaaWTab
import Derived.Test.YtjbapiogekjdnaaWFour
import Derived.Test.YtjbapiogekjdnaaWQPut
import Derived.Test.YtjbapiogekjdnaaWApart
import Derived.Test.YtjbapiogekjdnaaWArr
import Derived.Test.YtjbapiogekjdnaaWZeros
import Derived.Test.YtjbapiogekjdnaaWFoot
import Derived.Test.YtjbapiogekjdnaaWKept
import Derived.Test.YtjbapiogekjdnaaWShare
import Derived.Test.YtjbapiogekjdnaaWN
import Derived.Test.YtjbapiogekjdnaaWFootNe
import Derived.Test.YtjbapiogekjdnaaWAt
import Derived.Test.YtjbapiogekjdnaaWEqStruct
import Derived.Test.YtjbapiogekjdnaaWRepsOne
import Derived.Test.YtjbapiogekjdnaaWInv
import Derived.Test.YtjbapiogekjdnaaWInvWords
import Derived.Test.YtjbapiogekjdnaaWGuard
import Derived.Test.YtjbapiogekjdnaaWNEv
import Derived.Test.YtjbapiogekjdnaaWMore
namespace Go.Proofs.Ytjbapiogekjdnaa.PU
open Go.RowKit Go.Proofs.YtjbapiogekjdnaaW.PrintWords Go.Proofs.YtjbapiogekjdnaaW.PrintLast Go.Proofs.YtjbapiogekjdnaaW.PrintMore
attribute [local go_sem] max2_int min2_int max_two min_two max_three min_three max_four min_four   -- for this text's walks alone
set_option linter.unusedVariables false
set_option linter.unusedSimpArgs false



def errW : Option Int → Value
  | none => .nilIface
  | some c => .iface 0 (.int .i64 c)
theorem errW_none : errW none = .nilIface := rfl
theorem errW_some (c : Int) : errW (some c) = .iface 0 (.int .i64 c) := rfl

theorem info3 : (Try.prog.info? 3).map (fun i => (i.zero, i.size, i.bytes)) = some (some (.int .i64 0), 1, 8) := by kernel_rfl
theorem info5 : (Try.prog.info? 5).map (fun i => (i.zero, i.size, i.bytes)) = some (some (.int .u8 0), 1, 1) := by kernel_rfl
-- the values' own types

end Go.Proofs.Ytjbapiogekjdnaa.PU
