/- Lists of integers as cells. -/
import Derived.Test.YtkfgonbopgdmgaaDoorKa
namespace Go.Proofs.YtkfgonbopgdmgaaDoor.Px
def ints (l : List Int) : List Value := l.map (fun k => Value.int .i64 k)
theorem ints_snoc (l : List Int) (k : Int) : ints (l ++ [k]) = ints l ++ [.int .i64 k] := by unfold ints; simp
end Go.Proofs.YtkfgonbopgdmgaaDoor.Px
