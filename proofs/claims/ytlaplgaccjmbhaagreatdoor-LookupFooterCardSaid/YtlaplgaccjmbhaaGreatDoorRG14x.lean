/- Laws of tables that chapter 45 needs beside the others. -/
import Derived.Test.YtlaplgaccjmbhaaGreatDoorSG14














namespace Go.Proofs.YtlaplgaccjmbhaaGreatDoor.Px
open Go.RowKit
end Go.Proofs.YtlaplgaccjmbhaaGreatDoor.Px
namespace Go.Proofs.YtlaplgaccjmbhaaGreatDoor.Px
open Go.RowKit
end Go.Proofs.YtlaplgaccjmbhaaGreatDoor.Px
namespace Go.Proofs.YtlaplgaccjmbhaaGreatDoor.Px
open Go.RowKit
end Go.Proofs.YtlaplgaccjmbhaaGreatDoor.Px
namespace Go.Proofs.YtlaplgaccjmbhaaGreatDoor.Px
open Go.RowKit
/-- a slice over a block that is known -/
theorem SlV.of_block {W : World} {b : Nat} {cs : Array Value} {T : TypeId} {sz n c : Nat} (hb : W.heap[b]? = some (.cells cs T (0, 0))) (h1 : n ≤ c) (h2 : c ≤ maxLen) (hs : n * sz ≤ cs.size) : SlV W (.slice (some ⟨b, 0, none⟩) n c) sz n (cs.toList.take (n * sz)) := by
  refine ⟨by rw [List.length_take, Array.length_toList]; omega, _, c, rfl, h1, h2, .inr ⟨b, 0, rfl, lt_of_block hb, fun j u hu => ?_⟩⟩
  rw [List.getElem?_take] at hu
  split at hu
  · rw [Nat.zero_add]
    have := cell_of_row W b j cs T (0, 0) hb
    rw [this]
    simpa using hu
  · cases hu
end Go.Proofs.YtlaplgaccjmbhaaGreatDoor.Px
namespace Go.Proofs.YtlaplgaccjmbhaaGreatDoor.Tb
open Px
/-- how many transitions are not behind an instant -/
def idxT (l : List Tr) (t : Int) : Nat := (l.filter (fun x => decide (x.at' ≤ t))).length
/-- in transitions that increase these are the first ones -/
theorem idx_first {t : Int} : ∀ {l : List Tr}, l.Pairwise (fun a b => a.at' < b.at') → ∀ (i : Nat) (x : Tr), l[i]? = some x → (x.at' ≤ t ↔ i < idxT l t)
  | [], _, i, x, hx => by simp at hx
  | y :: r, hp, i, x, hx => by
    obtain ⟨h1, h2⟩ := List.pairwise_cons.1 hp
    by_cases hy : y.at' ≤ t
    · have e : idxT (y :: r) t = idxT r t + 1 := by unfold idxT; rw [List.filter_cons_of_pos (by simpa using hy)]; rfl
      rw [e]
      cases i with
      | zero =>
        simp only [List.getElem?_cons_zero, Option.some.injEq] at hx
        subst hx
        exact ⟨fun _ => by omega, fun _ => hy⟩
      | succ i =>
        rw [List.getElem?_cons_succ] at hx
        have := idx_first (t := t) h2 i x hx
        omega
    · have e : idxT (y :: r) t = 0 := by
        unfold idxT
        rw [List.filter_cons_of_neg (by simpa using hy), List.length_eq_zero_iff, List.filter_eq_nil_iff]
        intro z hz
        have := h1 z hz
        simp
        omega
      rw [e]
      refine ⟨fun h => ?_, fun h => by omega⟩
      cases i with
      | zero =>
        simp only [List.getElem?_cons_zero, Option.some.injEq] at hx
        subst hx
        exact absurd h hy
      | succ i =>
        rw [List.getElem?_cons_succ] at hx
        have := h1 x (List.mem_of_getElem? hx)
        omega
theorem idx_le (l : List Tr) (t : Int) : idxT l t ≤ l.length := List.length_filter_le _ _
end Go.Proofs.YtlaplgaccjmbhaaGreatDoor.Tb
namespace Go.Proofs.YtlaplgaccjmbhaaGreatDoor.Tb
open Px
end Go.Proofs.YtlaplgaccjmbhaaGreatDoor.Tb
namespace Go.Proofs.YtlaplgaccjmbhaaGreatDoor.Px
open Go.RowKit
open Go.Joins Go.ChangeShapes Go.WideShapes Go.Deep
open Tb
end Go.Proofs.YtlaplgaccjmbhaaGreatDoor.Px
namespace Go.Proofs.YtlaplgaccjmbhaaGreatDoor.Px
open Go.RowKit
open Go.Maps (Keyed)
open Tb
/-! ### local times as keys -/
end Go.Proofs.YtlaplgaccjmbhaaGreatDoor.Px
