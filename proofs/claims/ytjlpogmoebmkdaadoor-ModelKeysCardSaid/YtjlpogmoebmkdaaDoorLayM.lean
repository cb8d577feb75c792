/-
  maps.Clone of maps of ints, off the library's shelf: its contract laid at this program's numbers.
-/
import Derived.Test.YtjlpogmoebmkdaaDoorProg
import Derived.Shelf.SlMaps.Clone

namespace Go.Proofs.YtjlpogmoebmkdaaDoor
open Go.Shelf
def cloneM_lay_ren : Go.Shelf.Ren := ⟨fun | 5 => 33 | 7 => 54 | n => n, fun | 23 => 59 | 25 => 3 | 3 => 3 | 4 => 4 | 20 => 20 | n => n, fun | n => n⟩
theorem cloneM_lay : Go.Proofs.SlLaysW.n5 Tryd.prog cloneM_lay_ren := {
  mixed := by kernel_rfl
  f5 := ⟨Tryd.f33.name, by decide, Tryd.func33.trans (congrArg some (by kernel_rfl))⟩
  f7 := Tryd.func54.trans (congrArg some (by kernel_rfl))
  t4 := Tryd.underlying4
  a4 := Tryd.isAgg4
  z4 := Tryd.sizeOf4
  v4 := Tryd.zeroValue4
  t20 := Tryd.underlying20
  a20 := Tryd.isAgg20
  z20 := Tryd.sizeOf20
  v20 := Tryd.zeroValue20
  t23 := Tryd.underlying59
  a23 := Tryd.isAgg59
  z23 := Tryd.sizeOf59
  v23 := Tryd.zeroValue59 }
end Go.Proofs.YtjlpogmoebmkdaaDoor
