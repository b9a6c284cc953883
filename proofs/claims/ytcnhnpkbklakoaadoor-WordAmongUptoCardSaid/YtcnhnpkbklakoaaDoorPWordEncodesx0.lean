-- PRINTED BY print.sh 35421559b90ae4d0a3588c463048766b98c2df88dd9212a6774a882060cdf62d: not written by this session
import Derived.Test.YtcnhnpkbklakoaaDoorProg
import Derived.Below
import Derived.Deep.Draws
import Derived.Deep.AppendLies
import Derived.Maps.AppendAt
import Derived.OwnWalk
import Derived.Laws.BytesArg
import Derived.Laws.MakeOwn
import Derived.Laws.OwnMore
import Derived.Deep.OwnRows
import Derived.Tactics
import Derived.Lib.ConvBytes
import Derived.Laws.Slices
import Derived.WalkKit
import Derived.KernelRfl
import Derived.RowKit3
import Derived.Deep.LoopGhost
import Derived.Deep.QuietTactic
import Derived.BigQuiet
import Derived.WideLaws
import Derived.Deep.DeepCutAuto
import Derived.Deep.CutBlock
import Derived.Deep.RegionHeld3
import Derived.Laws.Rows
import Derived.Lib.AppendStr
import Derived.ArgAppend
import Derived.Laws.IdiomCopy
import Derived.OrdersHeld
import Derived.Laws.BitsLemmas
import Derived.RowKit
import Derived.Test.YtcnhnpkbklakoaaDoorWWords
import Derived.Test.YtcnhnpkbklakoaaDoorWLast
import Derived.Test.YtcnhnpkbklakoaaDoorWTab
import Derived.Test.YtcnhnpkbklakoaaDoorWFour
import Derived.Test.YtcnhnpkbklakoaaDoorWQPut
import Derived.Test.YtcnhnpkbklakoaaDoorWApart
import Derived.Test.YtcnhnpkbklakoaaDoorWArr
import Derived.Test.YtcnhnpkbklakoaaDoorWZeros
import Derived.Test.YtcnhnpkbklakoaaDoorWFoot
import Derived.Test.YtcnhnpkbklakoaaDoorWKept
import Derived.Test.YtcnhnpkbklakoaaDoorWShare
import Derived.Test.YtcnhnpkbklakoaaDoorWN
import Derived.Test.YtcnhnpkbklakoaaDoorWFootNe
import Derived.Test.YtcnhnpkbklakoaaDoorWAt
import Derived.Test.YtcnhnpkbklakoaaDoorWEqStruct
import Derived.Test.YtcnhnpkbklakoaaDoorWRepsOne
import Derived.Test.YtcnhnpkbklakoaaDoorWInv
import Derived.Test.YtcnhnpkbklakoaaDoorWInvWords
import Derived.Test.YtcnhnpkbklakoaaDoorWGuard
import Derived.Test.YtcnhnpkbklakoaaDoorWNEv
import Derived.Test.YtcnhnpkbklakoaaDoorWMore
namespace Go.Proofs.YtcnhnpkbklakoaaDoor.PWordEncodes
open Go.RowKit Go.Proofs.YtcnhnpkbklakoaaDoorW.PrintWords Go.Proofs.YtcnhnpkbklakoaaDoorW.PrintLast Go.Proofs.YtcnhnpkbklakoaaDoorW.PrintMore
attribute [local go_sem] max2_int min2_int max_two min_two max_three min_three max_four min_four   -- for this text's walks alone
set_option linter.unusedVariables false
set_option linter.unusedSimpArgs false



def errW : Option Int → Value
  | none => .nilIface
  | some c => .iface 0 (.int .i64 c)
theorem errW_none : errW none = .nilIface := rfl
theorem errW_some (c : Int) : errW (some c) = .iface 0 (.int .i64 c) := rfl

theorem info3 : (Tryd.prog.info? 3).map (fun i => (i.zero, i.size, i.bytes)) = some (some (.int .i64 0), 1, 8) := by kernel_rfl
theorem info5 : (Tryd.prog.info? 5).map (fun i => (i.zero, i.size, i.bytes)) = some (some (.int .u8 0), 1, 1) := by kernel_rfl
theorem info21 : (Tryd.prog.info? 21).map (fun i => (i.zero, i.size, i.bytes)) = some (some (.int .i32 0), 1, 4) := by kernel_rfl
-- the values' own types

end Go.Proofs.YtcnhnpkbklakoaaDoor.PWordEncodes
