-- PRINTED BY print.sh 35421559b90ae4d0a3588c463048766b98c2df88dd9212a6774a882060cdf62d: not written by this session
import Derived.Test.YtammhcfifnffeaaProg
import Derived.Below
import Derived.Deep.Draws
import Derived.Deep.AppendLies
import Derived.Maps.AppendAt
import Derived.OwnWalk
import Derived.Laws.BytesArg
import Derived.Laws.MakeOwn
import Derived.Laws.OwnMore
import Derived.Deep.OwnRows
import Derived.Tactics
import Derived.Lib.ConvBytes
import Derived.Laws.Slices
import Derived.WalkKit
import Derived.KernelRfl
import Derived.RowKit3
import Derived.Deep.LoopGhost
import Derived.Deep.QuietTactic
import Derived.BigQuiet
import Derived.WideLaws
import Derived.Deep.DeepCutAuto
import Derived.Deep.CutBlock
import Derived.Deep.RegionHeld3
import Derived.Laws.Rows
import Derived.Lib.AppendStr
import Derived.ArgAppend
import Derived.Laws.IdiomCopy
import Derived.OrdersHeld
import Derived.Laws.BitsLemmas
import Derived.RowKit
import Derived.Test.YtammhcfifnffeaaWWords
import Derived.Test.YtammhcfifnffeaaWLast
import Derived.Test.YtammhcfifnffeaaWTab
import Derived.Test.YtammhcfifnffeaaWFour
import Derived.Test.YtammhcfifnffeaaWQPut
import Derived.Test.YtammhcfifnffeaaWApart
import Derived.Test.YtammhcfifnffeaaWArr
import Derived.Test.YtammhcfifnffeaaWZeros
import Derived.Test.YtammhcfifnffeaaWFoot
import Derived.Test.YtammhcfifnffeaaWKept
import Derived.Test.YtammhcfifnffeaaWShare
import Derived.Test.YtammhcfifnffeaaWN
import Derived.Test.YtammhcfifnffeaaWFootNe
import Derived.Test.YtammhcfifnffeaaWAt
import Derived.Test.YtammhcfifnffeaaWEqStruct
import Derived.Test.YtammhcfifnffeaaWRepsOne
import Derived.Test.YtammhcfifnffeaaWInv
import Derived.Test.YtammhcfifnffeaaWInvWords
import Derived.Test.YtammhcfifnffeaaWGuard
import Derived.Test.YtammhcfifnffeaaWNEv
import Derived.Test.YtammhcfifnffeaaWMore
namespace Go.Proofs.Ytammhcfifnffeaa.PFieldUnfolds
open Go.RowKit Go.Proofs.YtammhcfifnffeaaW.PrintWords Go.Proofs.YtammhcfifnffeaaW.PrintLast Go.Proofs.YtammhcfifnffeaaW.PrintMore
attribute [local go_sem] max2_int min2_int max_two min_two max_three min_three max_four min_four   -- for this text's walks alone
set_option linter.unusedVariables false
set_option linter.unusedSimpArgs false



def errW : Option Int → Value
  | none => .nilIface
  | some c => .iface 0 (.int .i64 c)
theorem errW_none : errW none = .nilIface := rfl
theorem errW_some (c : Int) : errW (some c) = .iface 0 (.int .i64 c) := rfl

theorem info5 : (Try.prog.info? 5).map (fun i => (i.zero, i.size, i.bytes)) = some (some (.int .u8 0), 1, 1) := by kernel_rfl
-- the values' own types

end Go.Proofs.Ytammhcfifnffeaa.PFieldUnfolds
