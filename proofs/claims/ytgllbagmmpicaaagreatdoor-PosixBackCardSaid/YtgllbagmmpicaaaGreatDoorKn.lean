/- Blocks whose contents are known, kept over calls, new blocks and stores. -/
import Derived.Test.YtgllbagmmpicaaaGreatDoorPxR
namespace Go.Proofs.YtgllbagmmpicaaaGreatDoor.Px
open Go.RowKit

/-- what was there when a call began is as it was, and the blocks of a list (the newest first) hold what it says -/
structure Known (L : List (Nat × Obj)) (w X : World) : Prop where
  below : Below w.heap.size w X
  holds : ∀ (k b : Nat) (o : Obj), L[k]? = some (b, o) → X.heap[b]? = some o
  own : ∀ p ∈ L, w.heap.size ≤ p.1
  desc : L.Pairwise (fun a b => b.1 ≠ a.1)
theorem Known.at {L : List (Nat × Obj)} {w X : World} (h : Known L w X) (k : Nat) {b : Nat} {o : Obj} (hk : L[k]? = some (b, o)) : X.heap[b]? = some o := h.holds k b o hk
theorem Known.lt {L : List (Nat × Obj)} {w X : World} (h : Known L w X) (k : Nat) {b : Nat} {o : Obj} (hk : L[k]? = some (b, o)) : b < X.heap.size := lt_of_block (h.at k hk)
theorem Known.nil {w X : World} (h : Below w.heap.size w X) : Known [] w X := ⟨h, fun k b o hk => by simp at hk, (fun p hp => by cases hp), List.Pairwise.nil⟩
theorem Known.start (w : World) : Known [] w w := Known.nil (Below.refl _ _)
theorem Known.call {L : List (Nat × Obj)} {w X Y Z : World} (h : Known L w X) (hB : Below Y.heap.size Y Z) (he : Y.heap = X.heap) (ho : Y.os = X.os) (ht : Y.tape = X.tape) (hp : Y.output = X.output) : Known L w Z :=
  have hC : Below X.heap.size X Z := ⟨hB.os.trans ho, hB.tape.trans ht, hB.output.trans hp, by rw [← he]; exact hB.size, fun k hk => (hB.block k (by rw [he]; exact hk)).trans (by rw [he])⟩
  ⟨h.below.trans (hC.mono h.below.size), fun k b o hk => heap_keep (h.at k hk) hC, h.own, h.desc⟩
theorem Known.keep {L : List (Nat × Obj)} {w X Z : World} (h : Known L w X) (hB : Below X.heap.size X Z) : Known L w Z := h.call hB rfl rfl rfl rfl
theorem Known.same {L : List (Nat × Obj)} {w X Y : World} (h : Known L w X) (he : Y.heap = X.heap) (ho : Y.os = X.os) (ht : Y.tape = X.tape) (hp : Y.output = X.output) : Known L w Y := h.call (Below.refl _ Y) he ho ht hp
theorem Known.alloc {L : List (Nat × Obj)} {w X : World} (h : Known L w X) (o : Obj) : Known ((X.heap.size, o) :: L) w (X.alloc o) := by
  refine ⟨h.below.alloc h.below.size _, ?_, ?_, ?_⟩
  · intro k b x hk
    cases k with
    | zero =>
      simp only [List.getElem?_cons_zero, Option.some.injEq, Prod.mk.injEq] at hk
      obtain ⟨rfl, rfl⟩ := hk
      exact heap_new _ _
    | succ k =>
      rw [List.getElem?_cons_succ] at hk
      exact heap_old (h.at k hk) _
  · intro p hp
    rcases List.mem_cons.1 hp with rfl | hp
    · exact h.below.size
    · exact h.own p hp
  · refine List.Pairwise.cons ?_ h.desc
    intro p hp
    obtain ⟨k, hk, rfl⟩ := List.getElem_of_mem hp
    exact Nat.ne_of_lt (h.lt k (b := L[k].1) (o := L[k].2) (by rw [List.getElem?_eq_getElem hk]))
theorem Known.allocAt {L : List (Nat × Obj)} {w X : World} (h : Known L w X) (b : Nat) (hb : X.heap.size = b) (o : Obj) : Known ((b, o) :: L) w (X.alloc o) := by
  subst hb; exact h.alloc o
theorem Known.other {L : List (Nat × Obj)} {w X : World} (h : Known L w X) {j k b c : Nat} {o x : Obj} (hj : L[j]? = some (b, o)) (hk : L[k]? = some (c, x)) (hne : j ≠ k) : b ≠ c := by
  obtain ⟨hj1, hj2⟩ := List.getElem?_eq_some_iff.1 hj
  obtain ⟨hk1, hk2⟩ := List.getElem?_eq_some_iff.1 hk
  have hp := List.pairwise_iff_getElem.1 h.desc
  rcases Nat.lt_or_gt_of_ne hne with hlt | hlt
  · have := hp j k hj1 hk1 hlt
    rw [hj2, hk2] at this
    exact this.symm
  · have := hp k j hk1 hj1 hlt
    rw [hj2, hk2] at this
    exact this
theorem Known.set {L : List (Nat × Obj)} {w X : World} (h : Known L w X) (k : Nat) {b : Nat} {cs : Array Value} {T : TypeId} (hk : L[k]? = some (b, .cells cs T (0, 0))) (i : Nat) (u : Value) {cs' : Array Value} (he : cs.setIfInBounds i u = cs') :
    Known (L.set k (b, .cells cs' T (0, 0))) w (X.setCell ⟨b, i, none⟩ u) := by
  subst he
  have hkl : k < L.length := (List.getElem?_eq_some_iff.1 hk).1
  have hob : w.heap.size ≤ b := h.own _ (List.mem_of_getElem? hk)
  refine ⟨h.below.setCell hob u, ?_, ?_, ?_⟩
  · intro j c o hj
    by_cases hjk : j = k
    · subst hjk
      rw [List.getElem?_set_self hkl] at hj
      simp only [Option.some.injEq, Prod.mk.injEq] at hj
      obtain ⟨rfl, rfl⟩ := hj
      exact cells_set (h.at j hk) i u
    · rw [List.getElem?_set_ne (fun e => hjk e.symm)] at hj
      exact (Below.heap_setCell _ _ _ _ (h.other hj hk hjk)).trans (h.at j hj)
  · intro p hp
    rcases List.mem_or_eq_of_mem_set hp with hp | rfl
    · exact h.own p hp
    · exact hob
  · rw [List.pairwise_iff_getElem]
    have hpw := List.pairwise_iff_getElem.1 h.desc
    have key : ∀ (j : Nat) (hj : j < (L.set k (b, .cells (cs.setIfInBounds i u) T (0, 0))).length), ((L.set k (b, .cells (cs.setIfInBounds i u) T (0, 0)))[j]'hj).1 = (L[j]'(by simpa using hj)).1 := by
      intro j hj
      by_cases hjk : j = k
      · subst hjk
        rw [List.getElem_set_self]
        obtain ⟨_, hk2⟩ := List.getElem?_eq_some_iff.1 hk
        rw [hk2]
      · rw [List.getElem_set_ne (fun e => hjk e.symm)]
    intro j l hj hl hlt
    rw [key, key]
    exact hpw j l (by simpa using hj) (by simpa using hl) hlt
/-- one block less -/
theorem Known.drop {p : Nat × Obj} {L : List (Nat × Obj)} {w X : World} (h : Known (p :: L) w X) : Known L w X :=
  ⟨h.below, fun k b o hk => h.holds (k + 1) b o (by rw [List.getElem?_cons_succ]; exact hk), fun q hq => h.own q (List.mem_cons_of_mem _ hq), (List.pairwise_cons.1 h.desc).2⟩
theorem Known.pick {L M : List (Nat × Obj)} {w X : World} (h : Known L w X) (hs : M.Sublist L) : Known M w X :=
  ⟨h.below, fun k b o hk => by
    have hm : (b, o) ∈ L := hs.subset (List.mem_of_getElem? hk)
    obtain ⟨j, hj, e⟩ := List.getElem_of_mem hm
    exact h.at j (by rw [List.getElem?_eq_getElem hj, e]), fun p hp => h.own p (hs.subset hp), h.desc.sublist hs⟩
theorem row2 {X : World} {b : Nat} {T : TypeId} {x0 x1 : Value} (h : X.heap[b]? = some (.cells #[x0, x1] T (0, 0))) : X.cell? ⟨b, 0, none⟩ = some x0 ∧ X.cell? ⟨b, 1, none⟩ = some x1 := ⟨cells_at h 0, cells_at h 1⟩
theorem free2 {X : World} {b : Nat} {T : TypeId} {x0 x1 : Value} (h : X.heap[b]? = some (.cells #[x0, x1] T (0, 0))) : X.frozen? ⟨b, 0, none⟩ = false ∧ X.frozen? ⟨b, 1, none⟩ = false := ⟨free_at h 0, free_at h 1⟩
theorem row5 {X : World} {b : Nat} {T : TypeId} {x0 x1 x2 x3 x4 : Value} (h : X.heap[b]? = some (.cells #[x0, x1, x2, x3, x4] T (0, 0))) : X.cell? ⟨b, 0, none⟩ = some x0 ∧ X.cell? ⟨b, 1, none⟩ = some x1 ∧ X.cell? ⟨b, 2, none⟩ = some x2 ∧ X.cell? ⟨b, 3, none⟩ = some x3 ∧ X.cell? ⟨b, 4, none⟩ = some x4 := ⟨cells_at h 0, cells_at h 1, cells_at h 2, cells_at h 3, cells_at h 4⟩
theorem free5 {X : World} {b : Nat} {T : TypeId} {x0 x1 x2 x3 x4 : Value} (h : X.heap[b]? = some (.cells #[x0, x1, x2, x3, x4] T (0, 0))) : X.frozen? ⟨b, 0, none⟩ = false ∧ X.frozen? ⟨b, 1, none⟩ = false ∧ X.frozen? ⟨b, 2, none⟩ = false ∧ X.frozen? ⟨b, 3, none⟩ = false ∧ X.frozen? ⟨b, 4, none⟩ = false := ⟨free_at h 0, free_at h 1, free_at h 2, free_at h 3, free_at h 4⟩
theorem row11 {X : World} {b : Nat} {T : TypeId} {x0 x1 x2 x3 x4 x5 x6 x7 x8 x9 x10 : Value} (h : X.heap[b]? = some (.cells #[x0, x1, x2, x3, x4, x5, x6, x7, x8, x9, x10] T (0, 0))) : X.cell? ⟨b, 0, none⟩ = some x0 ∧ X.cell? ⟨b, 1, none⟩ = some x1 ∧ X.cell? ⟨b, 2, none⟩ = some x2 ∧ X.cell? ⟨b, 3, none⟩ = some x3 ∧ X.cell? ⟨b, 4, none⟩ = some x4 ∧ X.cell? ⟨b, 5, none⟩ = some x5 ∧ X.cell? ⟨b, 6, none⟩ = some x6 ∧ X.cell? ⟨b, 7, none⟩ = some x7 ∧ X.cell? ⟨b, 8, none⟩ = some x8 ∧ X.cell? ⟨b, 9, none⟩ = some x9 ∧ X.cell? ⟨b, 10, none⟩ = some x10 := ⟨cells_at h 0, cells_at h 1, cells_at h 2, cells_at h 3, cells_at h 4, cells_at h 5, cells_at h 6, cells_at h 7, cells_at h 8, cells_at h 9, cells_at h 10⟩
theorem free11 {X : World} {b : Nat} {T : TypeId} {x0 x1 x2 x3 x4 x5 x6 x7 x8 x9 x10 : Value} (h : X.heap[b]? = some (.cells #[x0, x1, x2, x3, x4, x5, x6, x7, x8, x9, x10] T (0, 0))) : X.frozen? ⟨b, 0, none⟩ = false ∧ X.frozen? ⟨b, 1, none⟩ = false ∧ X.frozen? ⟨b, 2, none⟩ = false ∧ X.frozen? ⟨b, 3, none⟩ = false ∧ X.frozen? ⟨b, 4, none⟩ = false ∧ X.frozen? ⟨b, 5, none⟩ = false ∧ X.frozen? ⟨b, 6, none⟩ = false ∧ X.frozen? ⟨b, 7, none⟩ = false ∧ X.frozen? ⟨b, 8, none⟩ = false ∧ X.frozen? ⟨b, 9, none⟩ = false ∧ X.frozen? ⟨b, 10, none⟩ = false := ⟨free_at h 0, free_at h 1, free_at h 2, free_at h 3, free_at h 4, free_at h 5, free_at h 6, free_at h 7, free_at h 8, free_at h 9, free_at h 10⟩
theorem row14 {X : World} {b : Nat} {T : TypeId} {x0 x1 x2 x3 x4 x5 x6 x7 x8 x9 x10 x11 x12 x13 : Value} (h : X.heap[b]? = some (.cells #[x0, x1, x2, x3, x4, x5, x6, x7, x8, x9, x10, x11, x12, x13] T (0, 0))) : X.cell? ⟨b, 0, none⟩ = some x0 ∧ X.cell? ⟨b, 1, none⟩ = some x1 ∧ X.cell? ⟨b, 2, none⟩ = some x2 ∧ X.cell? ⟨b, 3, none⟩ = some x3 ∧ X.cell? ⟨b, 4, none⟩ = some x4 ∧ X.cell? ⟨b, 5, none⟩ = some x5 ∧ X.cell? ⟨b, 6, none⟩ = some x6 ∧ X.cell? ⟨b, 7, none⟩ = some x7 ∧ X.cell? ⟨b, 8, none⟩ = some x8 ∧ X.cell? ⟨b, 9, none⟩ = some x9 ∧ X.cell? ⟨b, 10, none⟩ = some x10 ∧ X.cell? ⟨b, 11, none⟩ = some x11 ∧ X.cell? ⟨b, 12, none⟩ = some x12 ∧ X.cell? ⟨b, 13, none⟩ = some x13 := ⟨cells_at h 0, cells_at h 1, cells_at h 2, cells_at h 3, cells_at h 4, cells_at h 5, cells_at h 6, cells_at h 7, cells_at h 8, cells_at h 9, cells_at h 10, cells_at h 11, cells_at h 12, cells_at h 13⟩
theorem free14 {X : World} {b : Nat} {T : TypeId} {x0 x1 x2 x3 x4 x5 x6 x7 x8 x9 x10 x11 x12 x13 : Value} (h : X.heap[b]? = some (.cells #[x0, x1, x2, x3, x4, x5, x6, x7, x8, x9, x10, x11, x12, x13] T (0, 0))) : X.frozen? ⟨b, 0, none⟩ = false ∧ X.frozen? ⟨b, 1, none⟩ = false ∧ X.frozen? ⟨b, 2, none⟩ = false ∧ X.frozen? ⟨b, 3, none⟩ = false ∧ X.frozen? ⟨b, 4, none⟩ = false ∧ X.frozen? ⟨b, 5, none⟩ = false ∧ X.frozen? ⟨b, 6, none⟩ = false ∧ X.frozen? ⟨b, 7, none⟩ = false ∧ X.frozen? ⟨b, 8, none⟩ = false ∧ X.frozen? ⟨b, 9, none⟩ = false ∧ X.frozen? ⟨b, 10, none⟩ = false ∧ X.frozen? ⟨b, 11, none⟩ = false ∧ X.frozen? ⟨b, 12, none⟩ = false ∧ X.frozen? ⟨b, 13, none⟩ = false := ⟨free_at h 0, free_at h 1, free_at h 2, free_at h 3, free_at h 4, free_at h 5, free_at h 6, free_at h 7, free_at h 8, free_at h 9, free_at h 10, free_at h 11, free_at h 12, free_at h 13⟩
end Go.Proofs.YtgllbagmmpicaaaGreatDoor.Px
