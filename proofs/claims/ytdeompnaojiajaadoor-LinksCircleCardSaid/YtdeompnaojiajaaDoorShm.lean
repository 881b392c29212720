/- maps.Clone and maps.Copy by the kit's contracts, in this program's numbers. -/
import Derived.Test.YtdeompnaojiajaaDoorLnB
import Derived.Shelf.SlMaps.Clone
import Derived.Shelf.SlMaps.Copy
namespace Go.Proofs.YtdeompnaojiajaaDoor.Px
open Go.Shelf

def mcRen : Go.Shelf.Ren := ⟨fun | 5 => 47 | 7 => 56 | n => n, fun | 3 => 3 | 4 => 4 | 20 => 20 | 23 => 66 | 25 => 9 | n => n, fun | n => n⟩
theorem mcLays : Go.Proofs.SlLaysW.n5 Tryd.prog mcRen := {
  mixed := by kernel_rfl
  f5 := ⟨(Tryd.f47).name, by kernel_rfl, (Tryd.func47).trans (congrArg some (by kernel_rfl))⟩
  f7 := (Tryd.func56).trans (congrArg some (by kernel_rfl))
  t4 := Tryd.underlying4
  a4 := Tryd.isAgg4
  z4 := Tryd.sizeOf4
  v4 := Tryd.zeroValue4
  t20 := Tryd.underlying20
  a20 := Tryd.isAgg20
  z20 := Tryd.sizeOf20
  v20 := Tryd.zeroValue20
  t23 := Tryd.underlying66
  a23 := Tryd.isAgg66
  z23 := Tryd.sizeOf66
  v23 := Tryd.zeroValue66 }
def mpRen : Go.Shelf.Ren := ⟨fun | 5 => 41 | n => n, fun | 0 => 0 | 4 => 4 | 23 => 66 | 24 => 66 | 26 => 9 | 27 => 3 | n => n, fun | n => n⟩
theorem mpLays : Go.Proofs.SlLaysX.n5 Tryd.prog mpRen := {
  mixed := by kernel_rfl
  f5 := ⟨(Tryd.f41).name, by kernel_rfl, (Tryd.func41).trans (congrArg some (by kernel_rfl))⟩
  t0 := Tryd.underlying0
  a0 := Tryd.isAgg0
  z0 := Tryd.sizeOf0
  v0 := Tryd.zeroValue0
  t4 := Tryd.underlying4
  a4 := Tryd.isAgg4
  z4 := Tryd.sizeOf4
  v4 := Tryd.zeroValue4
  t23 := Tryd.underlying66
  a23 := Tryd.isAgg66
  z23 := Tryd.sizeOf66
  v23 := Tryd.zeroValue66
  t24 := Tryd.underlying66
  a24 := Tryd.isAgg66
  z24 := Tryd.sizeOf66
  v24 := Tryd.zeroValue66
  a26 := Tryd.isAgg9
  z26 := Tryd.sizeOf9
  a27 := Tryd.isAgg3
  z27 := Tryd.sizeOf3 }
end Go.Proofs.YtdeompnaojiajaaDoor.Px
