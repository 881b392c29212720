/- slices.Insert at strings by the kit's contracts, in this program's numbers. -/
import Derived.Test.YtkfgonbopgdmgaaDoorShelf
import Derived.Shelf.Spec.SlicesInsert
import Derived.Shelf.Spec.SlicesInsertGrow
namespace Go.Proofs.YtkfgonbopgdmgaaDoor.Px
open Go.Shelf

def insRen : Go.Shelf.Ren := ⟨fun | 17 => 27 | 22 => 30 | 29 => 55 | 30 => 56 | 36 => 73 | n => n, fun | 0 => 0 | 3 => 3 | 4 => 4 | 9 => 9 | 24 => 22 | n => n, fun | n => n⟩
theorem insLays : Go.Proofs.Lays2.n22 Tryd.prog insRen := {
  mixed := by kernel_rfl
  f17 := (Tryd.func27).trans (congrArg some (by kernel_rfl))
  f22 := (Tryd.func30).trans (congrArg some (by kernel_rfl))
  f29 := (Tryd.func55).trans (congrArg some (by kernel_rfl))
  f30 := (Tryd.func56).trans (congrArg some (by kernel_rfl))
  f36 := (Tryd.func73).trans (congrArg some (by kernel_rfl))
  t0 := Tryd.underlying0
  a0 := Tryd.isAgg0
  z0 := Tryd.sizeOf0
  v0 := Tryd.zeroValue0
  t3 := Tryd.underlying3
  a3 := Tryd.isAgg3
  z3 := Tryd.sizeOf3
  v3 := Tryd.zeroValue3
  t4 := Tryd.underlying4
  a4 := Tryd.isAgg4
  z4 := Tryd.sizeOf4
  v4 := Tryd.zeroValue4
  t9 := Tryd.underlying9
  a9 := Tryd.isAgg9
  z9 := Tryd.sizeOf9
  v9 := Tryd.zeroValue9
  t24 := Tryd.underlying22
  a24 := Tryd.isAgg22
  z24 := Tryd.sizeOf22
  v24 := Tryd.zeroValue22
  i9 := by kernel_rfl }
end Go.Proofs.YtkfgonbopgdmgaaDoor.Px
