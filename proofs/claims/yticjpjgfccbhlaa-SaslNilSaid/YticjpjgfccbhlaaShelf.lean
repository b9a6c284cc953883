/- strings.Split by the shelf (after lay-shelf.mjs and lay-plain.mjs). -/
import Derived.Shelf.Strings.Split
import Derived.Test.YticjpjgfccbhlaaProg
namespace Go.Proofs
open Go.Shelf
def Try.lays146_ren : Go.Shelf.Ren := ⟨fun | 146 => 118 | 221 => 120 | 268 => 121 | 138 => 122 | 143 => 123 | 195 => 124 | 197 => 125 | 218 => 126 | 219 => 127 | 260 => 128 | 217 => 78 | 225 => 76 | 224 => 75 | 267 => 129 | 266 => 79 | 314 => 130 | n => n, fun | 9 => 9 | 31 => 22 | 3 => 3 | 4 => 4 | 0 => 0 | 105 => 174 | 21 => 21 | 5 => 5 | 46 => 97 | 119 => 176 | 139 => 179 | 138 => 178 | 146 => 149 | 51 => 140 | n => n, fun | 1 => 0 | 3 => 3 | 4 => 4 | n => n⟩
theorem Try.lays146 : Go.Proofs.Lays.n146 Try.prog Try.lays146_ren := {
  mixed := by kernel_rfl
  f138 := Try.func122.trans (congrArg some (by kernel_rfl))
  f143 := Try.func123.trans (congrArg some (by kernel_rfl))
  f146 := Try.func118.trans (congrArg some (by kernel_rfl))
  f195 := Try.func124.trans (congrArg some (by kernel_rfl))
  f197 := Try.func125.trans (congrArg some (by kernel_rfl))
  f217 := Try.func78.trans (congrArg some (by kernel_rfl))
  f218 := Try.func126.trans (congrArg some (by kernel_rfl))
  f219 := Try.func127.trans (congrArg some (by kernel_rfl))
  f221 := Try.func120.trans (congrArg some (by kernel_rfl))
  f224 := Try.func75.trans (congrArg some (by kernel_rfl))
  f225 := Try.func76.trans (congrArg some (by kernel_rfl))
  f260 := Try.func128.trans (congrArg some (by kernel_rfl))
  f266 := Try.func79.trans (congrArg some (by kernel_rfl))
  f267 := Try.func129.trans (congrArg some (by kernel_rfl))
  f268 := Try.func121.trans (congrArg some (by kernel_rfl))
  f314 := Try.func130.trans (congrArg some (by kernel_rfl))
  t0 := Try.underlying0
  a0 := Try.isAgg0
  z0 := Try.sizeOf0
  v0 := Try.zeroValue0
  t3 := Try.underlying3
  a3 := Try.isAgg3
  z3 := Try.sizeOf3
  v3 := Try.zeroValue3
  t4 := Try.underlying4
  a4 := Try.isAgg4
  z4 := Try.sizeOf4
  v4 := Try.zeroValue4
  t5 := Try.underlying5
  a5 := Try.isAgg5
  z5 := Try.sizeOf5
  v5 := Try.zeroValue5
  t9 := Try.underlying9
  a9 := Try.isAgg9
  z9 := Try.sizeOf9
  v9 := Try.zeroValue9
  t21 := Try.underlying21
  a21 := Try.isAgg21
  z21 := Try.sizeOf21
  v21 := Try.zeroValue21
  t31 := Try.underlying22
  a31 := Try.isAgg22
  z31 := Try.sizeOf22
  v31 := Try.zeroValue22
  t46 := Try.underlying97
  a46 := Try.isAgg97
  z46 := Try.sizeOf97
  v46 := Try.zeroValue97
  t51 := Try.underlying140
  a51 := Try.isAgg140
  z51 := Try.sizeOf140
  v51 := Try.zeroValue140
  t105 := Try.underlying174
  a105 := Try.isAgg174
  z105 := Try.sizeOf174
  v105 := Try.zeroValue174
  t119 := Try.underlying176
  a119 := Try.isAgg176
  z119 := Try.sizeOf176
  t138 := Try.underlying178
  a138 := Try.isAgg178
  z138 := Try.sizeOf178
  v138 := Try.zeroValue178
  t139 := Try.underlying179
  a139 := Try.isAgg179
  z139 := Try.sizeOf179
  v139 := Try.zeroValue179
  t146 := Try.underlying149
  a146 := Try.isAgg149
  z146 := Try.sizeOf149
  v146 := Try.zeroValue149
  g1 := by kernel_rfl
  g3 := by kernel_rfl
  g4 := by kernel_rfl }
open Go.RowKit Go.Lib in
/-- strings.Split. (LAID: no walk: one application.) -/
theorem Try.strings_Split (s sep : ByteArray) (m : Int) (w : World) (hs : s.size < 4294967281) (hm : w.cell? ⟨0, 0, none⟩ = some (.int .i64 m)) (h1 : 1 ≤ sep.size) :
    Calls Try.prog 118 #[.string s, .string sep] w fun e w' =>
      e = .returned (.slice (some ⟨w.heap.size, 0, none⟩) (Lib.countB s sep + 1) (Lib.countB s sep + 1)) ∧ w' = w.alloc (.cells ((Lib.splitB sep 0 (Lib.countB s sep) s).map Value.string).toArray 9) := Any.strings_Split Try.lays146 (by kernel_rfl) s sep m w hs hm h1
end Go.Proofs
