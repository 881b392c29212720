/- What a source without faults says, plain: each link ends at a zone. -/
import Derived.Test.YtnffecoohkanhaaDoorM5
namespace Go.Proofs.YtnffecoohkanhaaDoor.Ld
open Lk

theorem scan_all {f : Nat → Int} {n : Nat} (h : scan f n = none) : ∀ j, j < n → f j = 0 := by
  unfold scan at h
  intro j hj
  have := List.find?_eq_none.1 h j (List.mem_range.2 hj)
  simpa using this
theorem fine_all {Z : List (List UInt8)} {L : List (List UInt8 × List UInt8)} {ok : List UInt8 → Bool} (h : checkL Z L ok = ((0, 0), 0)) : (∀ j, j < Z.length → zoneE Z ok j = 0) ∧ (∀ j, j < L.length → linkE Z L ok j = 0) ∧ ∀ j, j < L.length → loopE Z L j = 0 := by
  unfold checkL at h
  cases h1 : scan (zoneE Z ok) Z.length with
  | some i => rw [h1] at h; simp at h
  | none =>
    rw [h1] at h
    cases h2 : scan (linkE Z L ok) L.length with
    | some i => rw [h2] at h; simp at h
    | none =>
      rw [h2] at h
      cases h3 : scan (loopE Z L) L.length with
      | some i => rw [h3] at h; simp at h
      | none => exact ⟨scan_all h1, scan_all h2, scan_all h3⟩
theorem known_find {Z : List (List UInt8)} {L : List (List UInt8 × List UInt8)} (h : ∀ x ∈ nm L, tgt L x ∈ Z ∨ tgt L x ∈ nm L) : ∀ (k : Nat) (n : List UInt8), n ∈ Z ∨ n ∈ nm L → findG Z L k n = (0, 11) ∨ ∃ j, j < Z.length ∧ findG Z L k n = (j, 0)
  | 0, n, _ => .inl rfl
  | k + 1, n, hn => by
    rw [findG]
    by_cases hz : n ∈ Z
    · rw [if_pos hz]
      exact .inr ⟨_, List.idxOf_lt_length_of_mem hz, rfl⟩
    · rw [if_neg hz]
      have hm : n ∈ nm L := hn.resolve_left hz
      rw [if_pos hm]
      exact known_find h k _ (h n hm)
/-- in a source without faults each link stands for a zone -/
theorem fine_find {Z : List (List UInt8)} {L : List (List UInt8 × List UInt8)} {ok : List UInt8 → Bool} (h : checkL Z L ok = ((0, 0), 0)) {i : Nat} (hi : i < L.length) : ∃ j, j < Z.length ∧ findL Z L (L.getD i ([], [])).1 = (j, 0) := by
  obtain ⟨_, h2, h3⟩ := fine_all h
  have hnm : ∀ j, j < L.length → (nm L).getD j [] = (L.getD j ([], [])).1 := by
    intro j hj
    unfold nm
    rw [List.getD, List.getD, List.getElem?_map, List.getElem?_eq_getElem hj]
    rfl
  have hk : ∀ x ∈ nm L, tgt L x ∈ Z ∨ tgt L x ∈ nm L := by
    intro x hx
    have hi2 := List.idxOf_lt_length_of_mem hx
    rw [nm_len] at hi2
    have h4 := (linkE_fine.1 (h2 _ hi2)).2.2.2
    exact h4
  have hin : (L.getD i ([], [])).1 ∈ nm L := by
    unfold nm
    refine List.mem_map.2 ⟨L.getD i ([], []), ?_, rfl⟩
    rw [List.getD, List.getElem?_eq_getElem hi]
    exact List.getElem_mem hi
  have hl := h3 i hi
  unfold loopE at hl
  rw [hnm i hi] at hl
  unfold findL at hl ⊢
  rcases known_find hk (L.length + 1) _ (.inr hin) with e | e
  · rw [e] at hl
    simp at hl
  · exact e
end Go.Proofs.YtnffecoohkanhaaDoor.Ld
