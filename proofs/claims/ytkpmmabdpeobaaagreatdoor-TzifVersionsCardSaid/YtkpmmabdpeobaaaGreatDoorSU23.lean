/- The function table.Text: the text of any table. -/
import Derived.Test.YtkpmmabdpeobaaaGreatDoorSU22
import Derived.Test.YtkpmmabdpeobaaaGreatDoorSU17
import Derived.Test.YtkpmmabdpeobaaaGreatDoorSU20
import Derived.Test.YtkpmmabdpeobaaaGreatDoorSU8
import Derived.Deep.RegionHeldLaw
import Derived.Deep.QuietTactic
import Derived.BigQuiet
namespace Go.Proofs.YtkpmmabdpeobaaaGreatDoor.Px
open Go.RowKit
open Civ Tb
theorem BuB.drew {B b : Nat} {l : List UInt8} {w : World} (h : BuB B b l w) : BuB B b l w.drew := h.below (Civ.below_drewN (Below.refl _ w) 1)
theorem BuB.alloc {B b : Nat} {l : List UInt8} {w : World} (h : BuB B b l w) (o : Obj) : BuB B b l (w.alloc o) := h.below ((Below.refl _ w).alloc (Nat.le_refl _) o)
end Go.Proofs.YtkpmmabdpeobaaaGreatDoor.Px
