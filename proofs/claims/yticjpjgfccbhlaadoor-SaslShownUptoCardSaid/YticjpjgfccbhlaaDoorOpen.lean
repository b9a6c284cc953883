/- What a row of SaslStale, SaslOthers, SaslShown gives: the two tables of hash; a world for the witnesses. -/
import Derived.Test.YticjpjgfccbhlaaDoorRows
import Derived.Test.YticjpjgfccbhlaaDoorTakes
import Derived.Lib.LaidTab
import Derived.OpenShut
import Derived.WalkKit
import Derived.ProofKit
import Derived.ChangeOld
import Derived.Deep.DeepHandedRow
namespace Go.Proofs.YticjpjgfccbhlaaDoor.Open
open Go.RowKit Go.ChangeShapes Go.WideShapes Go.Proofs.YticjpjgfccbhlaaDoor.Hash Go.Lib
set_option linter.unusedVariables false
def zsT : List Int := [3614090360, 3905402710, 606105819, 3250441966, 4118548399, 1200080426, 2821735955, 4249261313, 1770035416, 2336552879, 4294925233, 2304563134, 1804603682, 4254626195, 2792965006, 1236535329, 4129170786, 3225465664, 643717713, 3921069994, 3593408605, 38016083, 3634488961, 3889429448, 568446438, 3275163606, 4107603335, 1163531501, 2850285829, 4243563512, 1735328473, 2368359562, 4294588738, 2272392833, 1839030562, 4259657740, 2763975236, 1272893353, 4139469664, 3200236656, 681279174, 3936430074, 3572445317, 76029189, 3654602809, 3873151461, 530742520, 3299628645, 4096336452, 1126891415, 2878612391, 4237533241, 1700485571, 2399980690, 4293915773, 2240044497, 1873313359, 4264355552, 2734768916, 1309151649, 4149444226, 3174756917, 718787259, 3951481745]
def zsS : List Int := [7, 12, 17, 22, 5, 9, 14, 20, 4, 11, 16, 23, 6, 10, 15, 21]
def tabT (j : Nat) : Int := zsT.getD j 0
def tabS (j : Nat) : Int := zsS.getD j 0
theorem gT : Tryd.prog.globalNamed "posthorn/hash.table" = some 0 := by kernel_rfl
theorem gS : Tryd.prog.globalNamed "posthorn/hash.turns" = some 1 := by kernel_rfl
theorem pos_S : ∀ j : Fin 16, 0 ≤ tabS j.val := by decide
theorem tabs_of {W : World} (h : laidMetH Tryd.prog Rows.saslStaleUptoRow.laid W) : Tabs tabT tabS W := by
  have h' : laidMet Tryd.prog [("posthorn/hash.table", tabData .u32 zsT), ("posthorn/hash.turns", tabData .u8 zsS)] W := h
  have h1 : TabIs Tryd.prog W "posthorn/hash.table" .u32 zsT := tabIs_of_head (t := 130) (e := 111) (n := 64) gT (by kernel_rfl) (by kernel_rfl) (by kernel_rfl) (by kernel_rfl) (by kernel_rfl) h'
  have h2 : TabIs Tryd.prog W "posthorn/hash.turns" .u8 zsS := by
    obtain ⟨ps, ⟨_, _, _, _, _, _, _, _, _, _, ⟨g', t', cs, fuel, p, q, hg', ht', hvar, hd, _, _⟩, _⟩, _⟩ := h'
    obtain rfl := Option.some.inj (gS.symm.trans hg')
    obtain rfl := Option.some.inj ((show (Tryd.prog.globals[1]?).map (·.type) = some 82 by kernel_rfl).symm.trans ht')
    unfold TabIs
    rw [hvar, ← cells_of_tab (k := .u8) (zs := zsS) (e := 5) (n := 16) (show Tryd.prog.underlying 82 = some (.array 16 5) by kernel_rfl) (by kernel_rfl) (by kernel_rfl) (by kernel_rfl) hd]
  exact ⟨fun j hj => h1.cell gT j (by exact hj), fun j hj => h2.cell gS j (by exact hj), fun j hj => pos_S ⟨j, hj⟩⟩
end Go.Proofs.YticjpjgfccbhlaaDoor.Open
namespace Go.Proofs.YticjpjgfccbhlaaDoor.Witness
open Go.ChangeShapes Go.WideShapes Go.ChangeAt Go.RowKit Go.Proofs.YticjpjgfccbhlaaDoor.Open
def put (cs : Array Value) : Obj → Obj
  | .cells _ t frozen => .cells cs t frozen
  | o => o
noncomputable def laidWorld (os : Os) : World :=
  { World.holding Tryd.prog os ⟨#[], #[], []⟩ with heap := ((World.holding Tryd.prog os ⟨#[], #[], []⟩).heap.modify 0 (put (zsT.map fun z => Value.int .u32 z).toArray)).modify 1 (put (zsS.map fun z => Value.int .u8 z).toArray) }
theorem own : ownKnob Tryd.prog.godebug = none := by kernel_rfl
theorem laidOut : laidOutB Tryd.prog = true := by kernel_rfl
end Go.Proofs.YticjpjgfccbhlaaDoor.Witness
