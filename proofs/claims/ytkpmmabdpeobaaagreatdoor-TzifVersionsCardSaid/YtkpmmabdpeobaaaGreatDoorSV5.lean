/- The start in which the listed variables read as listed: its environment. -/
import Derived.Test.YtkpmmabdpeobaaaGreatDoorSU13
namespace Go.Proofs.YtkpmmabdpeobaaaGreatDoor
open Go.ChangeShapes Go.WideShapes Go.ChangeAt Go.RowKit
theorem door_os (os : Os) : ((World.doorLaid Tryz.prog 4000 os).layVars Tryz.prog [("unicode/utf8.first", Rows.laid_unicode_utf8_first)]).os = os := (World.layVars_os _ _ _).trans rfl
end Go.Proofs.YtkpmmabdpeobaaaGreatDoor
