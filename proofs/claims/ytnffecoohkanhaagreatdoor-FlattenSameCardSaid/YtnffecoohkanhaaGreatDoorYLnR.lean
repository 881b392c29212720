/- The reference's way of following names (chapter 15): zone, link, Known, Find. -/
import Derived.Test.YtnffecoohkanhaaGreatDoorYLnG
namespace Go.Proofs.YtnffecoohkanhaaGreatDoor.Px
open Go.RowKit
open Go.Maps (Keyed)
open Lk

theorem ba_eq {a b : ByteArray} (h : a.toList = b.toList) : a = b := by
  rw [ByteArray.toList_eq, ByteArray.toList_eq] at h
  obtain ⟨⟨a⟩⟩ := a
  obtain ⟨⟨b⟩⟩ := b
  simpa using h
theorem bs_inj {a b : List UInt8} (h : bs a = bs b) : a = b := by
  have := congrArg (fun x : ByteArray => x.data.toList) h
  exact this
section
variable {α : Type} [DecidableEq α]
theorem posA_first : ∀ (l : List α) (i : Nat) (x : α), l[i]? = some x → x ∉ l.take i → posA l x = i
  | [], _, _, h, _ => by simp at h
  | y :: r, 0, x, h, _ => by
    have : y = x := by simpa using h
    rw [posA_cons, if_pos this]
  | y :: r, i + 1, x, h, hn => by
    rw [List.getElem?_cons_succ] at h
    rw [List.take_succ_cons, List.mem_cons] at hn
    rw [posA_cons, if_neg (fun e => hn (.inl e.symm)), posA_first r i x h (fun q => hn (.inr q))]
end
theorem not_take_succ {α : Type} {l : List α} {i : Nat} {x y : α} (h : l[i]? = some y) (hn : x ∉ l.take i) (hy : y ≠ x) : x ∉ l.take (i + 1) := by
  rw [List.take_add_one, h]
  intro q
  rcases List.mem_append.1 q with q | q
  · exact hn q
  · rw [Option.toList_some, List.mem_singleton] at q
    exact hy q.symm
/-- the index of the first, or -1 -/
def idx1 (N : List (List UInt8)) (n : List UInt8) : Int := if n ∈ N then (posA N n : Int) else -1
theorem idx1_in {N : List (List UInt8)} {i : Nat} {n : List UInt8} (h : N[i]? = some n) (hn : n ∉ N.take i) : idx1 N n = (i : Int) := by
  unfold idx1
  rw [if_pos (List.mem_of_getElem? h), posA_first N i n h hn]
theorem idx1_out {N : List (List UInt8)} {n : List UInt8} (h : n ∉ N) : idx1 N n = -1 := by
  unfold idx1
  rw [if_neg h]
theorem idx1_known (N : List (List UInt8)) (n : List UInt8) : 0 ≤ idx1 N n ↔ n ∈ N := by
  unfold idx1
  by_cases h : n ∈ N
  · rw [if_pos h]
    exact ⟨fun _ => h, fun _ => Int.natCast_nonneg _⟩
  · rw [if_neg h]
    exact ⟨fun q => by omega, fun q => absurd q h⟩
end Go.Proofs.YtnffecoohkanhaaGreatDoor.Px
