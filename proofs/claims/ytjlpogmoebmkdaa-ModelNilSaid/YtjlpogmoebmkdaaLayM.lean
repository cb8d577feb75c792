/-
  maps.Clone of maps of ints, off the library's shelf: its contract laid at this program's numbers.
-/
import Derived.Test.YtjlpogmoebmkdaaProg
import Derived.Shelf.SlMaps.Clone

namespace Go.Proofs.Ytjlpogmoebmkdaa
open Go.Shelf
def cloneM_lay_ren : Go.Shelf.Ren := ⟨fun | 5 => 23 | 7 => 34 | n => n, fun | 23 => 42 | 25 => 3 | 3 => 3 | 4 => 4 | 20 => 20 | n => n, fun | n => n⟩
theorem cloneM_lay : Go.Proofs.SlLaysW.n5 Try.prog cloneM_lay_ren := {
  mixed := by kernel_rfl
  f5 := ⟨Try.f23.name, by decide, Try.func23.trans (congrArg some (by kernel_rfl))⟩
  f7 := Try.func34.trans (congrArg some (by kernel_rfl))
  t4 := Try.underlying4
  a4 := Try.isAgg4
  z4 := Try.sizeOf4
  v4 := Try.zeroValue4
  t20 := Try.underlying20
  a20 := Try.isAgg20
  z20 := Try.sizeOf20
  v20 := Try.zeroValue20
  t23 := Try.underlying42
  a23 := Try.isAgg42
  z23 := Try.sizeOf42
  v23 := Try.zeroValue42 }
end Go.Proofs.Ytjlpogmoebmkdaa
