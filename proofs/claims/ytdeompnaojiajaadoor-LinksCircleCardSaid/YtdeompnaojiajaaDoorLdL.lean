/- A start in which the variables read as the drafts' rows list them (chapter 15). -/
import Derived.Test.YtdeompnaojiajaaDoorLnL
import Derived.Test.YtdeompnaojiajaaDoorLdO
namespace Go.Proofs.YtdeompnaojiajaaDoor
open Go.ChangeShapes Go.WideShapes Go.ChangeAt Go.RowKit
theorem door_met5 (os : Os) (args : Array Value) : laidMetH Tryd.prog Px.lay5 (((World.doorLaid Tryd.prog 4000 os).layVars Tryd.prog [("unicode/utf8.first", Rows.laid_unicode_utf8_first)]).forCall (fun _ _ => 0) ⟨#[], args, []⟩).memory :=
  laidMetH_of_parts3 (fuel := 8) (laidMet_of_run' 8 (by kernel_rfl) (by kernel_rfl)) (by kernel_rfl) (by kernel_rfl)
end Go.Proofs.YtdeompnaojiajaaDoor
