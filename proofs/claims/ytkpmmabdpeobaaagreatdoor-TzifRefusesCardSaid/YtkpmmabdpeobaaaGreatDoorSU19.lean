/- Lookup in tables: lookup.Index, lookup.At, analemmaref45.Index, analemmaref45.At. -/
import Derived.Test.YtkpmmabdpeobaaaGreatDoorSU17
namespace Go.Proofs.YtkpmmabdpeobaaaGreatDoor.Px
open Go.RowKit
open Tb
theorem check_zero {x : Tab} (h : checkE x = 0) : typesE x.types = 0 ∧ transE x = 0 ∧ footE x = 0 := by
 unfold checkE at h
 by_cases h1 : typesE x.types ≠ 0
 · rw [if_pos h1] at h; exact absurd h h1
 rw [if_neg h1] at h
 by_cases h2 : transE x ≠ 0
 · rw [if_pos h2] at h; exact absurd h h2
 rw [if_neg h2] at h
 exact ⟨Decidable.of_not_not h1, Decidable.of_not_not h2, h⟩
end Go.Proofs.YtkpmmabdpeobaaaGreatDoor.Px
