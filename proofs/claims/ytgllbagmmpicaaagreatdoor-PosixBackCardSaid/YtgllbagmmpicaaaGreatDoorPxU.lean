/- The method (posix.beginning).later, and the last event by it. -/
import Derived.Test.YtgllbagmmpicaaaGreatDoorPxR
namespace Go.Proofs.YtgllbagmmpicaaaGreatDoor.Px
open Go.RowKit
open Civ

theorem later_any (x y : Int) (p q r : Bool) (hr : decide (y < x ∨ (x = y ∧ p = true)) = r) (w : World) :
    Calls Tryz.prog 47 #[.agg #[.int .i64 x, .bool p], .agg #[.int .i64 y, .bool q]] w fun e w' => e = .returned (.bool r) ∧ Below w.heap.size w w' := by
  by_cases h1 : y < x
  · obtain rfl : r = true := by rw [← hr]; exact decide_eq_true (.inl h1)
    clear hr
    go_enter Tryz.func47, Tryz.ntmps47
    go_wp2_with fail
    go_ret
    exact ⟨rfl, ((Below.refl _ _).alloc (Nat.le_refl _) _).alloc (by simp) _⟩
  · by_cases h2 : x = y
    · subst h2
      have hb : ((x : Int) == x) = true := beq_self_eq_true x
      cases p
      · obtain rfl : r = false := by rw [← hr]; exact decide_eq_false (fun h => by rcases h with h | h; exact h1 h; cases h.2)
        clear hr
        go_enter Tryz.func47, Tryz.ntmps47
        go_wp2_with fail
        go_ret
        exact ⟨rfl, ((Below.refl _ _).alloc (Nat.le_refl _) _).alloc (by simp) _⟩
      · obtain rfl : r = true := by rw [← hr]; exact decide_eq_true (.inr ⟨rfl, rfl⟩)
        clear hr
        go_enter Tryz.func47, Tryz.ntmps47
        go_wp2_with fail
        go_ret
        exact ⟨rfl, ((Below.refl _ _).alloc (Nat.le_refl _) _).alloc (by simp) _⟩
    · obtain rfl : r = false := by rw [← hr]; exact decide_eq_false (fun h => by rcases h with h | h; exact h1 h; exact h2 h.1)
      have hb : ((x : Int) == y) = false := beq_eq_false_iff_ne.2 h2
      clear hr h2
      go_enter Tryz.func47, Tryz.ntmps47
      go_wp2_with fail
      go_ret
      exact ⟨rfl, ((Below.refl _ _).alloc (Nat.le_refl _) _).alloc (by simp) _⟩
end Go.Proofs.YtgllbagmmpicaaaGreatDoor.Px
