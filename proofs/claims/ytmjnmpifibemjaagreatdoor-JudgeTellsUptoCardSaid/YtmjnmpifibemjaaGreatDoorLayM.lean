/-
  maps.Clone of maps of ints, off the library's shelf: its contract laid at this program's numbers.
-/
import Derived.Test.YtmjnmpifibemjaaGreatDoorProg
import Derived.Shelf.SlMaps.Clone

namespace Go.Proofs.YtmjnmpifibemjaaGreatDoor
open Go.Shelf
def cloneM_lay_ren : Go.Shelf.Ren := ⟨fun | 5 => 102 | 7 => 113 | n => n, fun | 23 => 149 | 25 => 3 | 3 => 3 | 4 => 4 | 20 => 20 | n => n, fun | n => n⟩
theorem cloneM_lay : Go.Proofs.SlLaysW.n5 Tryz.prog cloneM_lay_ren := {
  mixed := by kernel_rfl
  f5 := ⟨Tryz.f102.name, by decide, Tryz.func102.trans (congrArg some (by kernel_rfl))⟩
  f7 := Tryz.func113.trans (congrArg some (by kernel_rfl))
  t4 := Tryz.underlying4
  a4 := Tryz.isAgg4
  z4 := Tryz.sizeOf4
  v4 := Tryz.zeroValue4
  t20 := Tryz.underlying20
  a20 := Tryz.isAgg20
  z20 := Tryz.sizeOf20
  v20 := Tryz.zeroValue20
  t23 := Tryz.underlying149
  a23 := Tryz.isAgg149
  z23 := Tryz.sizeOf149
  v23 := Tryz.zeroValue149 }
end Go.Proofs.YtmjnmpifibemjaaGreatDoor
