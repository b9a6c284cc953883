-- PRINTED BY print.sh 35421559b90ae4d0a3588c463048766b98c2df88dd9212a6774a882060cdf62d: not written by this session
import Derived.Test.YticjpjgfccbhlaaProg
import Derived.Below
import Derived.Deep.Draws
import Derived.Deep.AppendLies
import Derived.Maps.AppendAt
import Derived.OwnWalk
import Derived.Laws.BytesArg
import Derived.Laws.MakeOwn
import Derived.Laws.OwnMore
import Derived.Deep.OwnRows
import Derived.Tactics
import Derived.Lib.ConvBytes
import Derived.Laws.Slices
import Derived.WalkKit
import Derived.KernelRfl
import Derived.RowKit3
import Derived.Deep.LoopGhost
import Derived.Deep.QuietTactic
import Derived.BigQuiet
import Derived.WideLaws
import Derived.Deep.DeepCutAuto
import Derived.Deep.CutBlock
import Derived.Deep.RegionHeld3
import Derived.Laws.Rows
import Derived.Lib.AppendStr
import Derived.ArgAppend
import Derived.Laws.IdiomCopy
import Derived.OrdersHeld
import Derived.Laws.BitsLemmas
import Derived.RowKit
import Derived.Test.YticjpjgfccbhlaaWWords
import Derived.Test.YticjpjgfccbhlaaWLast
import Derived.Test.YticjpjgfccbhlaaWTab
import Derived.Test.YticjpjgfccbhlaaWFour
import Derived.Test.YticjpjgfccbhlaaWQPut
import Derived.Test.YticjpjgfccbhlaaWApart
import Derived.Test.YticjpjgfccbhlaaWArr
import Derived.Test.YticjpjgfccbhlaaWZeros
import Derived.Test.YticjpjgfccbhlaaWFoot
import Derived.Test.YticjpjgfccbhlaaWKept
import Derived.Test.YticjpjgfccbhlaaWShare
import Derived.Test.YticjpjgfccbhlaaWN
import Derived.Test.YticjpjgfccbhlaaWFootNe
import Derived.Test.YticjpjgfccbhlaaWAt
import Derived.Test.YticjpjgfccbhlaaWEqStruct
import Derived.Test.YticjpjgfccbhlaaWRepsOne
import Derived.Test.YticjpjgfccbhlaaWInv
import Derived.Test.YticjpjgfccbhlaaWInvWords
import Derived.Test.YticjpjgfccbhlaaWGuard
import Derived.Test.YticjpjgfccbhlaaWNEv
import Derived.Test.YticjpjgfccbhlaaWMore
namespace Go.Proofs.Yticjpjgfccbhlaa.PSaslNil
open Go.RowKit Go.Proofs.YticjpjgfccbhlaaW.PrintWords Go.Proofs.YticjpjgfccbhlaaW.PrintLast Go.Proofs.YticjpjgfccbhlaaW.PrintMore
attribute [local go_sem] max2_int min2_int max_two min_two max_three min_three max_four min_four   -- for this text's walks alone
set_option linter.unusedVariables false
set_option linter.unusedSimpArgs false



def errW : Option Int → Value
  | none => .nilIface
  | some c => .iface 0 (.int .i64 c)
theorem errW_none : errW none = .nilIface := rfl
theorem errW_some (c : Int) : errW (some c) = .iface 0 (.int .i64 c) := rfl

theorem info5 : (Try.prog.info? 5).map (fun i => (i.zero, i.size, i.bytes)) = some (some (.int .u8 0), 1, 1) := by kernel_rfl
-- the values' own types

end Go.Proofs.Yticjpjgfccbhlaa.PSaslNil
