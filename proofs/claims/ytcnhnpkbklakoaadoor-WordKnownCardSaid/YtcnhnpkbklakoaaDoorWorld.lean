/- A world for the witnesses of the door seat's rows: the tables hold what their initialisers lay. -/
import Derived.Test.YtcnhnpkbklakoaaDoorOpen
import Derived.WalkKit
import Derived.ProofKit
import Derived.Deep.DeepHandedRow
namespace Go.Proofs.YtcnhnpkbklakoaaDoor.Witness
open Go.ChangeShapes Go.WideShapes Go.ChangeAt Go.RowKit Go.Proofs.YtcnhnpkbklakoaaDoor.Octet
def rangeCells : Array Value := (([(128, 191), (160, 191), (128, 159), (144, 191), (128, 143)] ++ List.replicate 11 (0, 0) : List (Int × Int)).flatMap fun x => [Value.int .u8 x.1, Value.int .u8 x.2]).toArray
def stretchCells : Array Value := (tab.flatMap fun x => [Value.int .i64 (x.1 : Int), Value.int .u8 (x.2.1 : Int), Value.int .u8 (x.2.2 : Int)]).toArray
def firstCells : Array Value := (Pinned.utf8FirstZ.map fun (x : Nat) => Value.int .u8 (x : Int)).toArray
def put (cs : Array Value) : Obj → Obj
  | .cells _ t frozen => .cells cs t frozen
  | o => o
noncomputable def laidWorld (os : Os) : World :=
  { World.holding Tryd.prog os ⟨#[], #[], []⟩ with heap := (((World.holding Tryd.prog os ⟨#[], #[], []⟩).heap.modify 3 (put rangeCells)).modify 0 (put stretchCells)).modify 2 (put firstCells) }
theorem own : ownKnob Tryd.prog.godebug = none := by kernel_rfl
theorem laidOut : laidOutB Tryd.prog = true := by kernel_rfl
end Go.Proofs.YtcnhnpkbklakoaaDoor.Witness
