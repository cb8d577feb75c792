/-
  maps.Clone of maps of ints, off the library's shelf: its contract laid at this program's numbers.
-/
import Derived.Test.YtfbeaklplefojaaDoorProg
import Derived.Shelf.SlMaps.Clone

namespace Go.Proofs.YtfbeaklplefojaaDoor
open Go.Shelf
def cloneM_lay_ren : Go.Shelf.Ren := ⟨fun | 5 => 19 | 7 => 30 | n => n, fun | 23 => 65 | 25 => 3 | 3 => 3 | 4 => 4 | 20 => 20 | n => n, fun | n => n⟩
theorem cloneM_lay : Go.Proofs.SlLaysW.n5 Tryd.prog cloneM_lay_ren := {
  mixed := by kernel_rfl
  f5 := ⟨Tryd.f19.name, by decide, Tryd.func19.trans (congrArg some (by kernel_rfl))⟩
  f7 := Tryd.func30.trans (congrArg some (by kernel_rfl))
  t4 := Tryd.underlying4
  a4 := Tryd.isAgg4
  z4 := Tryd.sizeOf4
  v4 := Tryd.zeroValue4
  t20 := Tryd.underlying20
  a20 := Tryd.isAgg20
  z20 := Tryd.sizeOf20
  v20 := Tryd.zeroValue20
  t23 := Tryd.underlying65
  a23 := Tryd.isAgg65
  z23 := Tryd.sizeOf65
  v23 := Tryd.zeroValue65 }
end Go.Proofs.YtfbeaklplefojaaDoor
