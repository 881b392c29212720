/- maps.Clone by the kit's contracts, in this program's numbers. -/
import Derived.Test.YtnffecoohkanhaaDoorM19
import Derived.Shelf.SlMaps.Clone
namespace Go.Proofs.YtnffecoohkanhaaDoor.Px
open Go.Shelf

def mcRen : Go.Shelf.Ren := ⟨fun | 5 => 71 | 7 => 81 | n => n, fun | 3 => 3 | 4 => 4 | 20 => 20 | 23 => 98 | 25 => 9 | n => n, fun | n => n⟩
theorem mcLays : Go.Proofs.SlLaysW.n5 Tryd.prog mcRen := {
  mixed := by kernel_rfl
  f5 := ⟨(Tryd.f71).name, by kernel_rfl, (Tryd.func71).trans (congrArg some (by kernel_rfl))⟩
  f7 := (Tryd.func81).trans (congrArg some (by kernel_rfl))
  t4 := Tryd.underlying4
  a4 := Tryd.isAgg4
  z4 := Tryd.sizeOf4
  v4 := Tryd.zeroValue4
  t20 := Tryd.underlying20
  a20 := Tryd.isAgg20
  z20 := Tryd.sizeOf20
  v20 := Tryd.zeroValue20
  t23 := Tryd.underlying98
  a23 := Tryd.isAgg98
  z23 := Tryd.sizeOf98
  v23 := Tryd.zeroValue98 }
end Go.Proofs.YtnffecoohkanhaaDoor.Px
