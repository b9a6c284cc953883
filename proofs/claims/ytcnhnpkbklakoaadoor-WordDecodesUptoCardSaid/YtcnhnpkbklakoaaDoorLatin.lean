/- posthornref05.Write below 256. -/
import Derived.Test.YtcnhnpkbklakoaaDoorRefUnb
import Derived.Test.YtcnhnpkbklakoaaDoorG4
namespace Go.Proofs.YtcnhnpkbklakoaaDoor.Word
open Go.RowKit Go.Proofs.YtcnhnpkbklakoaaDoor.PWordDecodes Go.Proofs.YtcnhnpkbklakoaaDoor.Code Go.Proofs.YtcnhnpkbklakoaaDoor.Runes
theorem write_all : ((List.range 256).all fun n => posthornref05_Write.f (n : Int) == some (natsOf (Utf8.encode (n : Int)).data.toList)) = true := by kernel_rfl
theorem write_latin (x : UInt8) : posthornref05_Write.f (x.toNat : Int) = some (natsOf (Utf8.encode (x.toNat : Int)).data.toList) := by
  have h := List.all_eq_true.1 write_all x.toNat (List.mem_range.2 x.toNat_lt)
  exact eq_of_beq h
end Go.Proofs.YtcnhnpkbklakoaaDoor.Word
