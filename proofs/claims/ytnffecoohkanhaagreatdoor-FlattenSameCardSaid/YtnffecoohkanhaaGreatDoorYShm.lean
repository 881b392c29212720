/- maps.Clone and maps.Copy by the kit's contracts, in this program's numbers. -/
import Derived.Test.YtnffecoohkanhaaGreatDoorYLnB
import Derived.Shelf.SlMaps.Clone
import Derived.Shelf.SlMaps.Copy
namespace Go.Proofs.YtnffecoohkanhaaGreatDoor.Px
open Go.Shelf

def mcRen : Go.Shelf.Ren := ⟨fun | 5 => 45 | 7 => 60 | n => n, fun | 3 => 3 | 4 => 4 | 20 => 20 | 23 => 59 | 25 => 9 | n => n, fun | n => n⟩
theorem mcLays : Go.Proofs.SlLaysW.n5 Tryz.prog mcRen := {
  mixed := by kernel_rfl
  f5 := ⟨(Tryz.f45).name, by kernel_rfl, (Tryz.func45).trans (congrArg some (by kernel_rfl))⟩
  f7 := (Tryz.func60).trans (congrArg some (by kernel_rfl))
  t4 := Tryz.underlying4
  a4 := Tryz.isAgg4
  z4 := Tryz.sizeOf4
  v4 := Tryz.zeroValue4
  t20 := Tryz.underlying20
  a20 := Tryz.isAgg20
  z20 := Tryz.sizeOf20
  v20 := Tryz.zeroValue20
  t23 := Tryz.underlying59
  a23 := Tryz.isAgg59
  z23 := Tryz.sizeOf59
  v23 := Tryz.zeroValue59 }
def mpRen : Go.Shelf.Ren := ⟨fun | 5 => 22 | n => n, fun | 0 => 0 | 4 => 4 | 23 => 59 | 24 => 59 | 26 => 9 | 27 => 3 | n => n, fun | n => n⟩
theorem mpLays : Go.Proofs.SlLaysX.n5 Tryz.prog mpRen := {
  mixed := by kernel_rfl
  f5 := ⟨(Tryz.f22).name, by kernel_rfl, (Tryz.func22).trans (congrArg some (by kernel_rfl))⟩
  t0 := Tryz.underlying0
  a0 := Tryz.isAgg0
  z0 := Tryz.sizeOf0
  v0 := Tryz.zeroValue0
  t4 := Tryz.underlying4
  a4 := Tryz.isAgg4
  z4 := Tryz.sizeOf4
  v4 := Tryz.zeroValue4
  t23 := Tryz.underlying59
  a23 := Tryz.isAgg59
  z23 := Tryz.sizeOf59
  v23 := Tryz.zeroValue59
  t24 := Tryz.underlying59
  a24 := Tryz.isAgg59
  z24 := Tryz.sizeOf59
  v24 := Tryz.zeroValue59
  a26 := Tryz.isAgg9
  z26 := Tryz.sizeOf9
  a27 := Tryz.isAgg3
  z27 := Tryz.sizeOf3 }
end Go.Proofs.YtnffecoohkanhaaGreatDoor.Px
