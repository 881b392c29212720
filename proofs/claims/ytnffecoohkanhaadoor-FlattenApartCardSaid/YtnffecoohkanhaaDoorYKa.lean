/- Blocks whose contents are known, slices and maps that a call owns, kept over calls, new blocks, stores and appends. -/
import Derived.Test.YtnffecoohkanhaaDoorProg
import Derived.WalkKit
import Derived.WalkSpells
import Derived.WalkLawsBesides
import Derived.Lib.Hide
import Derived.Deep.QuietTactic
import Derived.BigQuiet
import Derived.Outline
import Derived.OneCell
import Derived.Deep.AppendLies
import Derived.Maps.OwnSet
import Derived.Maps.RangeWalk
namespace Go.Proofs.YtnffecoohkanhaaDoor.Px
open Go.RowKit

theorem below_drewN {B : Nat} {a w : World} (h : Below B a w) (n : Nat) : Below B a (w.drewN n) := ⟨h.os, h.tape, h.output, h.size, h.block⟩
theorem below_over {W W1 W' : World} (hB : Below W1.heap.size W1 W') (he : W1.heap = W.heap) (ho : W1.os = W.os) (ht : W1.tape = W.tape) (hp : W1.output = W.output) : Below W.heap.size W W' :=
  ⟨hB.os.trans ho, hB.tape.trans ht, hB.output.trans hp, by have := hB.size; rw [he] at this; exact this, fun i hi => by have := hB.block i (by rw [he]; exact hi); rw [he] at this; exact this⟩
def bs (l : List UInt8) : ByteArray := ⟨l.toArray⟩
theorem bs_list (l : List UInt8) : (bs l).data.toList = l := rfl
theorem cells_at {w : World} {b : Nat} {cs : Array Value} {t : TypeId} (h : w.heap[b]? = some (.cells cs t (0, 0))) (i : Nat) : w.cell? ⟨b, i, none⟩ = cs[i]? := by simp [World.cell?, h]
theorem free_at {w : World} {b : Nat} {cs : Array Value} {t : TypeId} (h : w.heap[b]? = some (.cells cs t (0, 0))) (i : Nat) : w.frozen? ⟨b, i, none⟩ = false := by simp [World.frozen?, h]
theorem cells_set {w : World} {b : Nat} {cs : Array Value} {t : TypeId} (h : w.heap[b]? = some (.cells cs t (0, 0))) (i : Nat) (u : Value) : (w.setCell ⟨b, i, none⟩ u).heap[b]? = some (.cells (cs.setIfInBounds i u) t (0, 0)) := by
  have hlt := lt_of_block h
  have h' : w.heap[b] = .cells cs t (0, 0) := by simpa [Array.getElem?_eq_getElem hlt] using h
  show (w.heap.modify b _)[b]? = _
  rw [Array.getElem?_eq_getElem (by simpa using hlt), Array.getElem_modify_self, h']
  rfl
theorem heap_new (w : World) (o : Obj) : (w.alloc o).heap[w.heap.size]? = some o := by
  show (w.heap.push o)[w.heap.size]? = some o
  simp
theorem heap_old {w : World} {b : Nat} {x : Obj} (h : w.heap[b]? = some x) (o : Obj) : (w.alloc o).heap[b]? = some x := by
  rw [← h]; exact Below.heap_alloc _ _ _ (lt_of_block h)
theorem heap_keep {W V : World} {b : Nat} {x : Obj} (h : W.heap[b]? = some x) (hB : Below W.heap.size W V) : V.heap[b]? = some x := (hB.block _ (lt_of_block h)).trans h
theorem row3 {w : World} {b : Nat} {x y z : Value} {t : TypeId} (h : w.heap[b]? = some (.cells #[x, y, z] t (0, 0))) : (w.cell? ⟨b, 0, none⟩ = some x ∧ w.cell? ⟨b, 1, none⟩ = some y ∧ w.cell? ⟨b, 2, none⟩ = some z) ∧
    w.frozen? ⟨b, 0, none⟩ = false ∧ w.frozen? ⟨b, 1, none⟩ = false ∧ w.frozen? ⟨b, 2, none⟩ = false :=
  ⟨⟨cells_at h 0, cells_at h 1, cells_at h 2⟩, free_at h 0, free_at h 1, free_at h 2⟩
/-- what was there when a call began is as it was, and the blocks of a list (the newest first) hold what it says -/
structure Known (L : List (Nat × Obj)) (w X : World) : Prop where
  below : Below w.heap.size w X
  holds : ∀ (k b : Nat) (o : Obj), L[k]? = some (b, o) → X.heap[b]? = some o
  own : ∀ p ∈ L, w.heap.size ≤ p.1
  desc : L.Pairwise (fun a b => b.1 ≠ a.1)
theorem Known.at {L : List (Nat × Obj)} {w X : World} (h : Known L w X) (k : Nat) {b : Nat} {o : Obj} (hk : L[k]? = some (b, o)) : X.heap[b]? = some o := h.holds k b o hk
theorem Known.lt {L : List (Nat × Obj)} {w X : World} (h : Known L w X) (k : Nat) {b : Nat} {o : Obj} (hk : L[k]? = some (b, o)) : b < X.heap.size := lt_of_block (h.at k hk)
theorem Known.nil {w X : World} (h : Below w.heap.size w X) : Known [] w X := ⟨h, fun k b o hk => by simp at hk, (fun p hp => by cases hp), List.Pairwise.nil⟩
theorem Known.start (w : World) : Known [] w w := Known.nil (Below.refl _ _)
theorem Known.call {L : List (Nat × Obj)} {w X Y Z : World} (h : Known L w X) (hB : Below Y.heap.size Y Z) (he : Y.heap = X.heap) (ho : Y.os = X.os) (ht : Y.tape = X.tape) (hp : Y.output = X.output) : Known L w Z :=
  have hC : Below X.heap.size X Z := ⟨hB.os.trans ho, hB.tape.trans ht, hB.output.trans hp, by rw [← he]; exact hB.size, fun k hk => (hB.block k (by rw [he]; exact hk)).trans (by rw [he])⟩
  ⟨h.below.trans (hC.mono h.below.size), fun k b o hk => heap_keep (h.at k hk) hC, h.own, h.desc⟩
theorem Known.keep {L : List (Nat × Obj)} {w X Z : World} (h : Known L w X) (hB : Below X.heap.size X Z) : Known L w Z := h.call hB rfl rfl rfl rfl
theorem Known.same {L : List (Nat × Obj)} {w X Y : World} (h : Known L w X) (he : Y.heap = X.heap) (ho : Y.os = X.os) (ht : Y.tape = X.tape) (hp : Y.output = X.output) : Known L w Y := h.call (Below.refl _ Y) he ho ht hp
theorem Known.alloc {L : List (Nat × Obj)} {w X : World} (h : Known L w X) (o : Obj) : Known ((X.heap.size, o) :: L) w (X.alloc o) := by
  refine ⟨h.below.alloc h.below.size _, ?_, ?_, ?_⟩
  · intro k b x hk
    cases k with
    | zero =>
      simp only [List.getElem?_cons_zero, Option.some.injEq, Prod.mk.injEq] at hk
      obtain ⟨rfl, rfl⟩ := hk
      exact heap_new _ _
    | succ k =>
      rw [List.getElem?_cons_succ] at hk
      exact heap_old (h.at k hk) _
  · intro p hp
    rcases List.mem_cons.1 hp with rfl | hp
    · exact h.below.size
    · exact h.own p hp
  · refine List.Pairwise.cons ?_ h.desc
    intro p hp
    obtain ⟨k, hk, rfl⟩ := List.getElem_of_mem hp
    exact Nat.ne_of_lt (h.lt k (b := L[k].1) (o := L[k].2) (by rw [List.getElem?_eq_getElem hk]))
theorem Known.allocAt {L : List (Nat × Obj)} {w X : World} (h : Known L w X) (b : Nat) (hb : X.heap.size = b) (o : Obj) : Known ((b, o) :: L) w (X.alloc o) := by
  subst hb; exact h.alloc o
theorem Known.other {L : List (Nat × Obj)} {w X : World} (h : Known L w X) {j k b c : Nat} {o x : Obj} (hj : L[j]? = some (b, o)) (hk : L[k]? = some (c, x)) (hne : j ≠ k) : b ≠ c := by
  obtain ⟨hj1, hj2⟩ := List.getElem?_eq_some_iff.1 hj
  obtain ⟨hk1, hk2⟩ := List.getElem?_eq_some_iff.1 hk
  have hp := List.pairwise_iff_getElem.1 h.desc
  rcases Nat.lt_or_gt_of_ne hne with hlt | hlt
  · have := hp j k hj1 hk1 hlt
    rw [hj2, hk2] at this
    exact this.symm
  · have := hp k j hk1 hj1 hlt
    rw [hj2, hk2] at this
    exact this
theorem Known.set {L : List (Nat × Obj)} {w X : World} (h : Known L w X) (k : Nat) {b : Nat} {cs : Array Value} {T : TypeId} (hk : L[k]? = some (b, .cells cs T (0, 0))) (i : Nat) (u : Value) {cs' : Array Value} (he : cs.setIfInBounds i u = cs') :
    Known (L.set k (b, .cells cs' T (0, 0))) w (X.setCell ⟨b, i, none⟩ u) := by
  subst he
  have hkl : k < L.length := (List.getElem?_eq_some_iff.1 hk).1
  have hob : w.heap.size ≤ b := h.own _ (List.mem_of_getElem? hk)
  refine ⟨h.below.setCell hob u, ?_, ?_, ?_⟩
  · intro j c o hj
    by_cases hjk : j = k
    · subst hjk
      rw [List.getElem?_set_self hkl] at hj
      simp only [Option.some.injEq, Prod.mk.injEq] at hj
      obtain ⟨rfl, rfl⟩ := hj
      exact cells_set (h.at j hk) i u
    · rw [List.getElem?_set_ne (fun e => hjk e.symm)] at hj
      exact (Below.heap_setCell _ _ _ _ (h.other hj hk hjk)).trans (h.at j hj)
  · intro p hp
    rcases List.mem_or_eq_of_mem_set hp with hp | rfl
    · exact h.own p hp
    · exact hob
  · rw [List.pairwise_iff_getElem]
    have hpw := List.pairwise_iff_getElem.1 h.desc
    have key : ∀ (j : Nat) (hj : j < (L.set k (b, .cells (cs.setIfInBounds i u) T (0, 0))).length), ((L.set k (b, .cells (cs.setIfInBounds i u) T (0, 0)))[j]'hj).1 = (L[j]'(by simpa using hj)).1 := by
      intro j hj
      by_cases hjk : j = k
      · subst hjk
        rw [List.getElem_set_self]
        obtain ⟨_, hk2⟩ := List.getElem?_eq_some_iff.1 hk
        rw [hk2]
      · rw [List.getElem_set_ne (fun e => hjk e.symm)]
    intro j l hj hl hlt
    rw [key, key]
    exact hpw j l (by simpa using hj) (by simpa using hl) hlt
/-- one block less -/
theorem Known.drop {p : Nat × Obj} {L : List (Nat × Obj)} {w X : World} (h : Known (p :: L) w X) : Known L w X :=
  ⟨h.below, fun k b o hk => h.holds (k + 1) b o (by rw [List.getElem?_cons_succ]; exact hk), fun q hq => h.own q (List.mem_cons_of_mem _ hq), (List.pairwise_cons.1 h.desc).2⟩
theorem Known.pick {L M : List (Nat × Obj)} {w X : World} (h : Known L w X) (hs : M.Sublist L) : Known M w X :=
  ⟨h.below, fun k b o hk => by
    have hm : (b, o) ∈ L := hs.subset (List.mem_of_getElem? hk)
    obtain ⟨j, hj, e⟩ := List.getElem_of_mem hm
    exact h.at j (by rw [List.getElem?_eq_getElem hj, e]), fun p hp => h.own p (hs.subset hp), h.desc.sublist hs⟩
theorem row2 {X : World} {b : Nat} {T : TypeId} {x0 x1 : Value} (h : X.heap[b]? = some (.cells #[x0, x1] T (0, 0))) : X.cell? ⟨b, 0, none⟩ = some x0 ∧ X.cell? ⟨b, 1, none⟩ = some x1 := ⟨cells_at h 0, cells_at h 1⟩
theorem free2 {X : World} {b : Nat} {T : TypeId} {x0 x1 : Value} (h : X.heap[b]? = some (.cells #[x0, x1] T (0, 0))) : X.frozen? ⟨b, 0, none⟩ = false ∧ X.frozen? ⟨b, 1, none⟩ = false := ⟨free_at h 0, free_at h 1⟩
theorem row5 {X : World} {b : Nat} {T : TypeId} {x0 x1 x2 x3 x4 : Value} (h : X.heap[b]? = some (.cells #[x0, x1, x2, x3, x4] T (0, 0))) : X.cell? ⟨b, 0, none⟩ = some x0 ∧ X.cell? ⟨b, 1, none⟩ = some x1 ∧ X.cell? ⟨b, 2, none⟩ = some x2 ∧ X.cell? ⟨b, 3, none⟩ = some x3 ∧ X.cell? ⟨b, 4, none⟩ = some x4 := ⟨cells_at h 0, cells_at h 1, cells_at h 2, cells_at h 3, cells_at h 4⟩
theorem free5 {X : World} {b : Nat} {T : TypeId} {x0 x1 x2 x3 x4 : Value} (h : X.heap[b]? = some (.cells #[x0, x1, x2, x3, x4] T (0, 0))) : X.frozen? ⟨b, 0, none⟩ = false ∧ X.frozen? ⟨b, 1, none⟩ = false ∧ X.frozen? ⟨b, 2, none⟩ = false ∧ X.frozen? ⟨b, 3, none⟩ = false ∧ X.frozen? ⟨b, 4, none⟩ = false := ⟨free_at h 0, free_at h 1, free_at h 2, free_at h 3, free_at h 4⟩
theorem row11 {X : World} {b : Nat} {T : TypeId} {x0 x1 x2 x3 x4 x5 x6 x7 x8 x9 x10 : Value} (h : X.heap[b]? = some (.cells #[x0, x1, x2, x3, x4, x5, x6, x7, x8, x9, x10] T (0, 0))) : X.cell? ⟨b, 0, none⟩ = some x0 ∧ X.cell? ⟨b, 1, none⟩ = some x1 ∧ X.cell? ⟨b, 2, none⟩ = some x2 ∧ X.cell? ⟨b, 3, none⟩ = some x3 ∧ X.cell? ⟨b, 4, none⟩ = some x4 ∧ X.cell? ⟨b, 5, none⟩ = some x5 ∧ X.cell? ⟨b, 6, none⟩ = some x6 ∧ X.cell? ⟨b, 7, none⟩ = some x7 ∧ X.cell? ⟨b, 8, none⟩ = some x8 ∧ X.cell? ⟨b, 9, none⟩ = some x9 ∧ X.cell? ⟨b, 10, none⟩ = some x10 := ⟨cells_at h 0, cells_at h 1, cells_at h 2, cells_at h 3, cells_at h 4, cells_at h 5, cells_at h 6, cells_at h 7, cells_at h 8, cells_at h 9, cells_at h 10⟩
theorem free11 {X : World} {b : Nat} {T : TypeId} {x0 x1 x2 x3 x4 x5 x6 x7 x8 x9 x10 : Value} (h : X.heap[b]? = some (.cells #[x0, x1, x2, x3, x4, x5, x6, x7, x8, x9, x10] T (0, 0))) : X.frozen? ⟨b, 0, none⟩ = false ∧ X.frozen? ⟨b, 1, none⟩ = false ∧ X.frozen? ⟨b, 2, none⟩ = false ∧ X.frozen? ⟨b, 3, none⟩ = false ∧ X.frozen? ⟨b, 4, none⟩ = false ∧ X.frozen? ⟨b, 5, none⟩ = false ∧ X.frozen? ⟨b, 6, none⟩ = false ∧ X.frozen? ⟨b, 7, none⟩ = false ∧ X.frozen? ⟨b, 8, none⟩ = false ∧ X.frozen? ⟨b, 9, none⟩ = false ∧ X.frozen? ⟨b, 10, none⟩ = false := ⟨free_at h 0, free_at h 1, free_at h 2, free_at h 3, free_at h 4, free_at h 5, free_at h 6, free_at h 7, free_at h 8, free_at h 9, free_at h 10⟩
theorem row14 {X : World} {b : Nat} {T : TypeId} {x0 x1 x2 x3 x4 x5 x6 x7 x8 x9 x10 x11 x12 x13 : Value} (h : X.heap[b]? = some (.cells #[x0, x1, x2, x3, x4, x5, x6, x7, x8, x9, x10, x11, x12, x13] T (0, 0))) : X.cell? ⟨b, 0, none⟩ = some x0 ∧ X.cell? ⟨b, 1, none⟩ = some x1 ∧ X.cell? ⟨b, 2, none⟩ = some x2 ∧ X.cell? ⟨b, 3, none⟩ = some x3 ∧ X.cell? ⟨b, 4, none⟩ = some x4 ∧ X.cell? ⟨b, 5, none⟩ = some x5 ∧ X.cell? ⟨b, 6, none⟩ = some x6 ∧ X.cell? ⟨b, 7, none⟩ = some x7 ∧ X.cell? ⟨b, 8, none⟩ = some x8 ∧ X.cell? ⟨b, 9, none⟩ = some x9 ∧ X.cell? ⟨b, 10, none⟩ = some x10 ∧ X.cell? ⟨b, 11, none⟩ = some x11 ∧ X.cell? ⟨b, 12, none⟩ = some x12 ∧ X.cell? ⟨b, 13, none⟩ = some x13 := ⟨cells_at h 0, cells_at h 1, cells_at h 2, cells_at h 3, cells_at h 4, cells_at h 5, cells_at h 6, cells_at h 7, cells_at h 8, cells_at h 9, cells_at h 10, cells_at h 11, cells_at h 12, cells_at h 13⟩
theorem free14 {X : World} {b : Nat} {T : TypeId} {x0 x1 x2 x3 x4 x5 x6 x7 x8 x9 x10 x11 x12 x13 : Value} (h : X.heap[b]? = some (.cells #[x0, x1, x2, x3, x4, x5, x6, x7, x8, x9, x10, x11, x12, x13] T (0, 0))) : X.frozen? ⟨b, 0, none⟩ = false ∧ X.frozen? ⟨b, 1, none⟩ = false ∧ X.frozen? ⟨b, 2, none⟩ = false ∧ X.frozen? ⟨b, 3, none⟩ = false ∧ X.frozen? ⟨b, 4, none⟩ = false ∧ X.frozen? ⟨b, 5, none⟩ = false ∧ X.frozen? ⟨b, 6, none⟩ = false ∧ X.frozen? ⟨b, 7, none⟩ = false ∧ X.frozen? ⟨b, 8, none⟩ = false ∧ X.frozen? ⟨b, 9, none⟩ = false ∧ X.frozen? ⟨b, 10, none⟩ = false ∧ X.frozen? ⟨b, 11, none⟩ = false ∧ X.frozen? ⟨b, 12, none⟩ = false ∧ X.frozen? ⟨b, 13, none⟩ = false := ⟨free_at h 0, free_at h 1, free_at h 2, free_at h 3, free_at h 4, free_at h 5, free_at h 6, free_at h 7, free_at h 8, free_at h 9, free_at h 10, free_at h 11, free_at h 12, free_at h 13⟩
/-- a slice that the call owns: its value, its elements' type and cells, how many there are, and the cells -/
structure Rw where
  v : Value
  e : TypeId
  sz : Nat
  n : Nat
  xs : List Value
/-- known blocks L and owned slices R, all made since w -/
structure Kp (L : List (Nat × Obj)) (R : List Rw) (w X : World) : Prop where
  known : Known L w X
  own : ∀ r ∈ R, X.ownsRow w.heap.size r.e r.sz r.v r.n r.xs
  offL : ∀ r ∈ R, ∀ g, r.v.ownBlock = some g → ∀ p ∈ L, p.1 ≠ g
  offR : R.Pairwise (fun r s => ∀ g, r.v.ownBlock = some g → s.v.ownBlock ≠ some g)
theorem Kp.below {L : List (Nat × Obj)} {R : List Rw} {w X : World} (h : Kp L R w X) : Below w.heap.size w X := h.known.below
theorem Kp.at {L : List (Nat × Obj)} {R : List Rw} {w X : World} (h : Kp L R w X) (k : Nat) {b : Nat} {o : Obj} (hk : L[k]? = some (b, o)) : X.heap[b]? = some o := h.known.at k hk
theorem Kp.lt {L : List (Nat × Obj)} {R : List Rw} {w X : World} (h : Kp L R w X) (k : Nat) {b : Nat} {o : Obj} (hk : L[k]? = some (b, o)) : b < X.heap.size := h.known.lt k hk
theorem Kp.row {L : List (Nat × Obj)} {R : List Rw} {w X : World} (h : Kp L R w X) (i : Nat) {r : Rw} (hr : R[i]? = some r) : X.ownsRow w.heap.size r.e r.sz r.v r.n r.xs := h.own r (List.mem_of_getElem? hr)
theorem Kp.of {L : List (Nat × Obj)} {w X : World} (h : Known L w X) : Kp L [] w X := ⟨h, (fun r hr => by cases hr), (fun r hr => by cases hr), List.Pairwise.nil⟩
theorem Kp.start (w : World) : Kp [] [] w w := Kp.of (Known.start w)
theorem grown_below {X Z : World} (hB : Below X.heap.size X Z) : X.grownBy Z none := ⟨hB.os, hB.tape, hB.output, hB.size, fun k hk _ => hB.block k hk⟩
theorem Kp.keep {L : List (Nat × Obj)} {R : List Rw} {w X Z : World} (h : Kp L R w X) (hB : Below X.heap.size X Z) : Kp L R w Z :=
  ⟨h.known.keep hB, fun r hr => (h.own r hr).kept (grown_below hB) (by cases r.v.ownBlock <;> simp), h.offL, h.offR⟩
theorem Kp.call {L : List (Nat × Obj)} {R : List Rw} {w X Y Z : World} (h : Kp L R w X) (hB : Below Y.heap.size Y Z) (he : Y.heap = X.heap) (ho : Y.os = X.os) (ht : Y.tape = X.tape) (hp : Y.output = X.output) : Kp L R w Z :=
  h.keep ⟨hB.os.trans ho, hB.tape.trans ht, hB.output.trans hp, by rw [← he]; exact hB.size, fun k hk => (hB.block k (by rw [he]; exact hk)).trans (by rw [he])⟩
theorem Kp.drew {L : List (Nat × Obj)} {R : List Rw} {w X : World} (h : Kp L R w X) : Kp L R w X.drew := h.call (Below.refl _ _) rfl rfl rfl rfl
theorem Kp.alloc {L : List (Nat × Obj)} {R : List Rw} {w X : World} (h : Kp L R w X) (o : Obj) : Kp ((X.heap.size, o) :: L) R w (X.alloc o) :=
  ⟨h.known.alloc o, fun r hr => (h.own r hr).alloc o, fun r hr g hg p hp => by
    rcases List.mem_cons.1 hp with rfl | hp
    · have := ((h.own r hr).lt g hg).2
      dsimp only
      omega
    · exact h.offL r hr g hg p hp, h.offR⟩
theorem Kp.allocAt {L : List (Nat × Obj)} {R : List Rw} {w X : World} (h : Kp L R w X) (b : Nat) (hb : X.heap.size = b) (o : Obj) : Kp ((b, o) :: L) R w (X.alloc o) := by
  subst hb; exact h.alloc o
theorem Kp.pick {L M : List (Nat × Obj)} {R : List Rw} {w X : World} (h : Kp L R w X) (hs : M.Sublist L) : Kp M R w X :=
  ⟨h.known.pick hs, h.own, fun r hr g hg p hp => h.offL r hr g hg p (hs.subset hp), h.offR⟩
theorem Kp.drop {p : Nat × Obj} {L : List (Nat × Obj)} {R : List Rw} {w X : World} (h : Kp (p :: L) R w X) : Kp L R w X := h.pick (List.sublist_cons_self _ _)
/-- a slice that is nil yet -/
theorem Kp.fresh {L : List (Nat × Obj)} {R : List Rw} {w X : World} (h : Kp L R w X) (e : TypeId) (sz : Nat) : Kp L (⟨.slice none 0 0, e, sz, 0, []⟩ :: R) w X :=
  ⟨h.known, fun r hr => by
    rcases List.mem_cons.1 hr with rfl | hr
    · exact World.ownsRow_nil _ _ _ _
    · exact h.own r hr, fun r hr g hg => by
    rcases List.mem_cons.1 hr with rfl | hr
    · simp [Value.ownBlock] at hg
    · exact h.offL r hr g hg, List.pairwise_cons.2 ⟨fun s _ g hg => by simp [Value.ownBlock] at hg, h.offR⟩⟩
/-- a slice whose block is known, as a slice that the call owns -/
theorem Kp.own_block {L : List (Nat × Obj)} {R : List Rw} {w X : World} {b : Nat} {cs : Array Value} {T : TypeId} (h : Kp ((b, .cells cs T (0, 0)) :: L) R w X) (sz n cap : Nat) (hn : n ≤ cap) (hc : cap ≤ maxLen) (hs : cs.size = cap * sz) :
    Kp L (⟨.slice (some ⟨b, 0, none⟩) n cap, T, sz, n, cs.toList.take (n * sz)⟩ :: R) w X := by
  have hb := h.at 0 rfl
  have hob : w.heap.size ≤ b := h.known.own _ (List.mem_cons_self ..)
  refine ⟨h.known.drop, fun r hr => ?_, fun r hr g hg p hp => ?_, List.pairwise_cons.2 ⟨fun s hs g hg e => ?_, h.offR⟩⟩
  · rcases List.mem_cons.1 hr with rfl | hr
    · refine ⟨?_, .inr ⟨b, cap, cs, rfl, hob, hb, hn, hc, hs, rfl⟩⟩
      rw [List.length_take, Array.length_toList, hs]
      exact Nat.min_eq_left (Nat.mul_le_mul_right _ hn)
    · exact h.own r hr
  · rcases List.mem_cons.1 hr with rfl | hr
    · have hg' : b = g := by simpa [Value.ownBlock] using hg
      subst hg'
      exact (List.pairwise_cons.1 h.known.desc).1 p hp
    · exact h.offL r hr g hg p (List.mem_cons_of_mem _ hp)
  · have hg' : b = g := by simpa [Value.ownBlock] using hg
    subst hg'
    exact h.offL s hs _ e _ (List.mem_cons_self ..) rfl
theorem Kp.set {L : List (Nat × Obj)} {R : List Rw} {w X : World} (h : Kp L R w X) (k : Nat) {b : Nat} {cs : Array Value} {T : TypeId} (hk : L[k]? = some (b, .cells cs T (0, 0))) (i : Nat) (u : Value) {cs' : Array Value} (he : cs.setIfInBounds i u = cs') :
    Kp (L.set k (b, .cells cs' T (0, 0))) R w (X.setCell ⟨b, i, none⟩ u) := by
  refine ⟨h.known.set k hk i u he, fun r hr => ?_, fun r hr g hg p hp => ?_, h.offR⟩
  · refine (h.own r hr).kept (row := some b) ⟨rfl, rfl, rfl, by rw [World.size_setCell]; exact Nat.le_refl _, fun j hj hne => Below.heap_setCell _ _ _ _ (fun e => hne (by rw [e]))⟩ ?_
    cases hv : r.v.ownBlock with
    | none => exact .inl rfl
    | some g =>
      right
      intro e
      simp only [Option.some.injEq] at e
      exact h.offL r hr g hv _ (List.mem_of_getElem? hk) e.symm
  · rcases List.mem_or_eq_of_mem_set hp with hp | rfl
    · exact h.offL r hr g hg p hp
    · exact h.offL r hr g hg (b, .cells cs T (0, 0)) (List.mem_of_getElem? hk)
/-- behind an append to the first of the slices -/
theorem Kp.append {L : List (Nat × Obj)} {R : List Rw} {r : Rw} {w X Z : World} {v' : Value} {n' : Nat} {xs' : List Value} (h : Kp L (r :: R) w X) (ho : Z.ownsRow w.heap.size r.e r.sz v' n' xs') (hg : X.grownBy Z r.v.ownBlock)
    (hat : v'.ownBlock = r.v.ownBlock ∨ v'.ownBlock = some X.heap.size) : Kp L (⟨v', r.e, r.sz, n', xs'⟩ :: R) w Z := by
  have hr0 := h.own r (List.mem_cons_self ..)
  have hbl : ∀ b, b < X.heap.size → some b ≠ r.v.ownBlock → Z.heap[b]? = X.heap[b]? := hg.block
  obtain ⟨hp1, hp2⟩ := List.pairwise_cons.1 h.offR
  refine ⟨⟨⟨hg.os.trans h.below.os, hg.tape.trans h.below.tape, hg.output.trans h.below.output, Nat.le_trans h.below.size hg.size, fun k hk => ?_⟩, fun k b o hk => ?_, h.known.own, h.known.desc⟩, fun s hs => ?_, fun s hs g hgs p hp => ?_, List.pairwise_cons.2 ⟨fun s hs g hgs e => ?_, hp2⟩⟩
  · refine (hbl k (Nat.lt_of_lt_of_le hk h.below.size) (fun e => ?_)).trans (h.below.block k hk)
    have := (hr0.lt k e.symm).1
    omega
  · refine (hbl b (h.lt k hk) (fun e => ?_)).trans (h.at k hk)
    exact h.offL r (List.mem_cons_self ..) b e.symm _ (List.mem_of_getElem? hk) rfl
  · rcases List.mem_cons.1 hs with rfl | hs
    · exact ho
    · refine (h.own s (List.mem_cons_of_mem _ hs)).kept hg ?_
      cases hv : s.v.ownBlock with
      | none => exact .inl rfl
      | some g => exact .inr (fun e => hp1 s hs g e.symm hv)
  · rcases List.mem_cons.1 hs with rfl | hs
    · rcases hat with hat | hat
      · exact h.offL r (List.mem_cons_self ..) g (hat.symm.trans hgs) p hp
      · have e : X.heap.size = g := Option.some.inj (hat.symm.trans hgs)
        obtain ⟨k, hk, rfl⟩ := List.getElem_of_mem hp
        have := h.lt k (b := L[k].1) (o := L[k].2) (by rw [List.getElem?_eq_getElem hk])
        omega
    · exact h.offL s (List.mem_cons_of_mem _ hs) g hgs p hp
  · rcases hat with hat | hat
    · exact hp1 s hs g (hat.symm.trans hgs) e
    · have e2 : X.heap.size = g := Option.some.inj (hat.symm.trans hgs)
      have := ((h.own s (List.mem_cons_of_mem _ hs)).lt g e).2
      omega
/-- the slices in another order -/
theorem Kp.perm {L : List (Nat × Obj)} {R S : List Rw} {w X : World} (h : Kp L R w X) (hp : S.Perm R) : Kp L S w X :=
  ⟨h.known, fun r hr => h.own r (hp.subset hr), fun r hr => h.offL r (hp.subset hr), (hp.pairwise_iff (fun {_ _} hab g hb ha => hab g ha hb)).2 h.offR⟩
theorem Kp.swap {L : List (Nat × Obj)} {R : List Rw} {r s : Rw} {w X : World} (h : Kp L (r :: s :: R) w X) : Kp L (s :: r :: R) w X := h.perm (List.Perm.swap r s R)
theorem Kp.less {L : List (Nat × Obj)} {R S : List Rw} {w X : World} (h : Kp L R w X) (hs : S.Sublist R) : Kp L S w X :=
  ⟨h.known, fun r hr => h.own r (hs.subset hr), fun r hr => h.offL r (hs.subset hr), h.offR.sublist hs⟩
/-- the cells of a slice that the call owns -/
theorem own_cells {X : World} {B : Nat} {e : TypeId} {sz n : Nat} {v : Value} {xs : List Value} (h : X.ownsRow B e sz v n xs) : (n = 0 ∧ v = .slice none 0 0) ∨ ∃ g cap, v = .slice (some ⟨g, 0, none⟩) n cap ∧ n ≤ cap ∧ cap ≤ maxLen ∧ g < X.heap.size ∧ ∀ (j : Nat) (u : Value), xs[j]? = some u → X.cell? ⟨g, j, none⟩ = some u := by
  rcases h.2 with ⟨h1, h2⟩ | ⟨g, cap, cur, rfl, _, hg, hn, hm, _⟩
  · exact .inl ⟨h2, h1⟩
  · refine .inr ⟨g, cap, rfl, hn, hm, lt_of_block hg, fun j u hu => ?_⟩
    have := h.cells (g := g) rfl j u hu
    rw [show (⟨g, 0, none⟩ : Addr).add j = ⟨g, j, none⟩ by unfold Addr.add; split <;> simp_all] at this
    exact this
theorem Kp.grown {L : List (Nat × Obj)} {R : List Rw} {w X Z : World} {b : Nat} (h : Kp L R w X) (hg : X.grownBy Z (some b)) (hb : w.heap.size ≤ b) (hL : ∀ p ∈ L, p.1 ≠ b) (hR : ∀ r ∈ R, r.v.ownBlock ≠ some b) : Kp L R w Z :=
  ⟨⟨⟨hg.os.trans h.below.os, hg.tape.trans h.below.tape, hg.output.trans h.below.output, Nat.le_trans h.below.size hg.size, fun k hk => (hg.block k (Nat.lt_of_lt_of_le hk h.below.size) (fun e => by
      have := Option.some.inj e
      omega)).trans (h.below.block k hk)⟩,
    fun k c o hk => (hg.block c (h.lt k hk) (fun e => hL _ (List.mem_of_getElem? hk) (Option.some.inj e))).trans (h.at k hk), h.known.own, h.known.desc⟩,
   fun r hr => (h.own r hr).kept hg (.inr (hR r hr)), h.offL, h.offR⟩
/-- a map: its block, its key's and its element's types, how many entries at most, what it reads as -/
structure Mp where
  b : Nat
  k : TypeId
  e : TypeId
  n : Nat
  D : DataW Unit
/-- known blocks L, owned slices R, maps M, all made since w -/
structure Km (L : List (Nat × Obj)) (R : List Rw) (M : List Mp) (w X : World) : Prop where
  kp : Kp L R w X
  map : ∀ m ∈ M, X.ownsMap Tryd.prog m.k (plainElem Tryd.prog m.e) m.b m.n m.D
  own : ∀ m ∈ M, w.heap.size ≤ m.b
  offL : ∀ m ∈ M, ∀ p ∈ L, p.1 ≠ m.b
  offR : ∀ m ∈ M, ∀ r ∈ R, r.v.ownBlock ≠ some m.b
  offM : M.Pairwise (fun a b => a.b ≠ b.b)
theorem Km.below {L : List (Nat × Obj)} {R : List Rw} {M : List Mp} {w X : World} (h : Km L R M w X) : Below w.heap.size w X := h.kp.below
theorem Km.of {L : List (Nat × Obj)} {R : List Rw} {w X : World} (h : Kp L R w X) : Km L R [] w X :=
  ⟨h, (fun m hm => by cases hm), (fun m hm => by cases hm), (fun m hm => by cases hm), (fun m hm => by cases hm), List.Pairwise.nil⟩
theorem Km.keep {L : List (Nat × Obj)} {R : List Rw} {M : List Mp} {w X Z : World} (h : Km L R M w X) (hB : Below X.heap.size X Z) : Km L R M w Z :=
  ⟨h.kp.keep hB, fun m hm => (h.map m hm).kept (grown_below hB) (by simp), h.own, h.offL, h.offR, h.offM⟩
theorem Km.call {L : List (Nat × Obj)} {R : List Rw} {M : List Mp} {w X Y Z : World} (h : Km L R M w X) (hB : Below Y.heap.size Y Z) (he : Y.heap = X.heap) (ho : Y.os = X.os) (ht : Y.tape = X.tape) (hp : Y.output = X.output) : Km L R M w Z :=
  h.keep ⟨hB.os.trans ho, hB.tape.trans ht, hB.output.trans hp, by rw [← he]; exact hB.size, fun k hk => (hB.block k (by rw [he]; exact hk)).trans (by rw [he])⟩
theorem Km.drew {L : List (Nat × Obj)} {R : List Rw} {M : List Mp} {w X : World} (h : Km L R M w X) : Km L R M w X.drew := h.call (Below.refl _ _) rfl rfl rfl rfl
theorem Km.alloc {L : List (Nat × Obj)} {R : List Rw} {M : List Mp} {w X : World} (h : Km L R M w X) (o : Obj) : Km ((X.heap.size, o) :: L) R M w (X.alloc o) :=
  ⟨h.kp.alloc o, fun m hm => (h.map m hm).alloc o, h.own, fun m hm p hp => by
    rcases List.mem_cons.1 hp with rfl | hp
    · have := (h.map m hm).lt
      dsimp only
      omega
    · exact h.offL m hm p hp, h.offR, h.offM⟩
theorem Km.allocAt {L : List (Nat × Obj)} {R : List Rw} {M : List Mp} {w X : World} (h : Km L R M w X) (b : Nat) (hb : X.heap.size = b) (o : Obj) : Km ((b, o) :: L) R M w (X.alloc o) := by
  subst hb; exact h.alloc o
theorem Km.drop {p : Nat × Obj} {L : List (Nat × Obj)} {R : List Rw} {M : List Mp} {w X : World} (h : Km (p :: L) R M w X) : Km L R M w X :=
  ⟨h.kp.drop, h.map, h.own, fun m hm q hq => h.offL m hm q (List.mem_cons_of_mem _ hq), h.offR, h.offM⟩
theorem Km.fresh {L : List (Nat × Obj)} {R : List Rw} {M : List Mp} {w X : World} (h : Km L R M w X) (e : TypeId) (sz : Nat) : Km L (⟨.slice none 0 0, e, sz, 0, []⟩ :: R) M w X :=
  ⟨h.kp.fresh e sz, h.map, h.own, h.offL, fun m hm r hr => by
    rcases List.mem_cons.1 hr with rfl | hr
    · simp [Value.ownBlock]
    · exact h.offR m hm r hr, h.offM⟩
theorem Km.swap {L : List (Nat × Obj)} {R : List Rw} {M : List Mp} {r s : Rw} {w X : World} (h : Km L (r :: s :: R) M w X) : Km L (s :: r :: R) M w X :=
  ⟨h.kp.swap, h.map, h.own, h.offL, fun m hm x hx => h.offR m hm x ((List.Perm.swap r s R).subset hx), h.offM⟩
/-- a map that has just been made -/
theorem Km.made {L : List (Nat × Obj)} {R : List Rw} {M : List Mp} {w X : World} (h : Km L R M w X) (k e : TypeId) : Km L R (⟨X.heap.size, k, e, 0, .map []⟩ :: M) w (X.alloc (.map #[] 0)) := by
  refine ⟨(h.kp.alloc _).drop, fun m hm => ?_, fun m hm => ?_, fun m hm p hp => ?_, fun m hm r hr => ?_, List.pairwise_cons.2 ⟨fun m hm => ?_, h.offM⟩⟩
  · rcases List.mem_cons.1 hm with rfl | hm
    · exact World.ownsMap_made _ _ _ _
    · exact (h.map m hm).alloc _
  · rcases List.mem_cons.1 hm with rfl | hm
    · exact h.below.size
    · exact h.own m hm
  · rcases List.mem_cons.1 hm with rfl | hm
    · obtain ⟨k, hk, rfl⟩ := List.getElem_of_mem hp
      exact Nat.ne_of_lt (h.kp.lt k (b := L[k].1) (o := L[k].2) (by rw [List.getElem?_eq_getElem hk]))
    · exact h.offL m hm p hp
  · rcases List.mem_cons.1 hm with rfl | hm
    · intro e
      have := ((h.kp.own r hr).lt _ e).2
      dsimp only at this
      omega
    · exact h.offR m hm r hr
  · have := (h.map m hm).lt
    dsimp only
    omega
/-- behind a step that may have turned the first of the maps alone -/
theorem Km.turn {L : List (Nat × Obj)} {R : List Rw} {M : List Mp} {m : Mp} {w X Z : World} {n' : Nat} {D' : DataW Unit} (h : Km L R (m :: M) w X) (hg : X.grownBy Z (some m.b)) (ho : Z.ownsMap Tryd.prog m.k (plainElem Tryd.prog m.e) m.b n' D') : Km L R (⟨m.b, m.k, m.e, n', D'⟩ :: M) w Z := by
  obtain ⟨hp1, hp2⟩ := List.pairwise_cons.1 h.offM
  refine ⟨h.kp.grown hg (h.own m (List.mem_cons_self ..)) (h.offL m (List.mem_cons_self ..)) (h.offR m (List.mem_cons_self ..)), fun x hx => ?_, fun x hx => ?_, fun x hx => ?_, fun x hx => ?_, List.pairwise_cons.2 ⟨fun x hx => hp1 x hx, hp2⟩⟩
  · rcases List.mem_cons.1 hx with rfl | hx
    · exact ho
    · exact (h.map x (List.mem_cons_of_mem _ hx)).kept hg (fun e => hp1 x hx (Option.some.inj e).symm)
  · rcases List.mem_cons.1 hx with rfl | hx
    · exact h.own m (List.mem_cons_self ..)
    · exact h.own x (List.mem_cons_of_mem _ hx)
  · rcases List.mem_cons.1 hx with rfl | hx
    · exact h.offL m (List.mem_cons_self ..)
    · exact h.offL x (List.mem_cons_of_mem _ hx)
  · rcases List.mem_cons.1 hx with rfl | hx
    · exact h.offR m (List.mem_cons_self ..)
    · exact h.offR x (List.mem_cons_of_mem _ hx)
/-- behind an append to the first of the slices -/
theorem Km.append {L : List (Nat × Obj)} {R : List Rw} {M : List Mp} {r : Rw} {w X Z : World} {v' : Value} {n' : Nat} {xs' : List Value} (h : Km L (r :: R) M w X) (ho : Z.ownsRow w.heap.size r.e r.sz v' n' xs') (hg : X.grownBy Z r.v.ownBlock)
    (hat : v'.ownBlock = r.v.ownBlock ∨ v'.ownBlock = some X.heap.size) : Km L (⟨v', r.e, r.sz, n', xs'⟩ :: R) M w Z := by
  refine ⟨h.kp.append ho hg hat, fun m hm => (h.map m hm).kept hg (fun e => h.offR m hm r (List.mem_cons_self ..) e.symm), h.own, h.offL, fun m hm x hx => ?_, h.offM⟩
  rcases List.mem_cons.1 hx with rfl | hx
  · rcases hat with hat | hat
    · dsimp only
      rw [hat]
      exact h.offR m hm r (List.mem_cons_self ..)
    · dsimp only
      rw [hat]
      intro e
      have := (h.map m hm).lt
      have := Option.some.inj e
      omega
  · exact h.offR m hm x (List.mem_cons_of_mem _ hx)
theorem own_cell {X : World} {B : Nat} {e : TypeId} {g n cap N sz : Nat} {xs : List Value} (h : X.ownsRow B e sz (.slice (some ⟨g, 0, none⟩) n cap) N xs) {j : Nat} {u : Value} (hj : xs[j]? = some u) : X.cell? ⟨g, j, none⟩ = some u := by
  rcases own_cells h with ⟨_, e⟩ | ⟨g', cap', e, _, _, _, h4⟩
  · cases e
  · simp only [Value.slice.injEq, Option.some.injEq, Addr.mk.injEq, and_true] at e
    obtain ⟨rfl, _, _⟩ := e
    exact h4 j u hj
theorem own_down {X : World} {B B' : Nat} {e : TypeId} {sz n : Nat} {v : Value} {xs : List Value} (h : X.ownsRow B e sz v n xs) (hb : B' ≤ B) : X.ownsRow B' e sz v n xs :=
  ⟨h.1, h.2.imp id (fun ⟨g, cap, cur, e1, e2, r⟩ => ⟨g, cap, cur, e1, Nat.le_trans hb e2, r⟩)⟩
theorem own_slice {X : World} {B : Nat} {e : TypeId} {sz n : Nat} {v : Value} {xs : List Value} (h : X.ownsRow B e sz v n xs) : ∃ a c, v = .slice a n c := by
  rcases h.2 with ⟨h1, h2⟩ | ⟨g, cap, cur, rfl, _⟩
  · subst h2
    exact ⟨none, 0, h1⟩
  · exact ⟨_, _, rfl⟩
/-- what a callee has made, taken over -/
theorem Kp.adopt {L : List (Nat × Obj)} {R R0 : List Rw} {w X Z : World} (h : Kp L R0 w X) (k : Kp [] R X Z) : Kp L (R ++ R0) w Z := by
  have h' := h.keep k.below
  refine ⟨h'.known, fun r hr => ?_, fun r hr g hg p hp => ?_, ?_⟩
  · rcases List.mem_append.1 hr with hr | hr
    · exact own_down (k.own r hr) h.below.size
    · exact h'.own r hr
  · rcases List.mem_append.1 hr with hr | hr
    · have h1 := ((k.own r hr).lt g hg).1
      obtain ⟨i, hi, rfl⟩ := List.getElem_of_mem hp
      have := h.lt i (b := L[i].1) (o := L[i].2) (by rw [List.getElem?_eq_getElem hi])
      omega
    · exact h'.offL r hr g hg p hp
  · refine List.pairwise_append.2 ⟨k.offR, h'.offR, fun r hr s hs g hg e => ?_⟩
    have h1 := ((k.own r hr).lt g hg).1
    have h2 := ((h.own s hs).lt g e).2
    omega
/-- where an owned slice lies that is not empty -/
theorem own_some {X : World} {B sz n N c : Nat} {a : Option Addr} {e : TypeId} {xs : List Value} (h : X.ownsRow B e sz (.slice a n c) N xs) (h0 : 0 < N) : ∃ g, a = some ⟨g, 0, none⟩ ∧ n = N ∧ N ≤ c ∧ c ≤ maxLen ∧ g < X.heap.size := by
  rcases own_cells h with ⟨h1, _⟩ | ⟨g, cap, e1, e2, e3, e4, _⟩
  · omega
  · simp only [Value.slice.injEq] at e1
    obtain ⟨rfl, rfl, rfl⟩ := e1
    exact ⟨g, rfl, rfl, e2, e3, e4⟩
/-- a slice that the call owns, as a known block -/
theorem Kp.known_of {L : List (Nat × Obj)} {R : List Rw} {v : Value} {e : TypeId} {sz n : Nat} {xs : List Value} {w X : World} (h : Kp L (⟨v, e, sz, n, xs⟩ :: R) w X) (hn : 0 < n) :
    ∃ g cap cur, v = .slice (some ⟨g, 0, none⟩) n cap ∧ Kp ((g, .cells cur e (0, 0)) :: L) R w X ∧ n ≤ cap ∧ cap ≤ maxLen ∧ cur.size = cap * sz ∧ cur.toList.take (n * sz) = xs := by
  have hr : X.ownsRow w.heap.size e sz v n xs := h.row 0 rfl
  rcases hr.2 with ⟨_, h0⟩ | ⟨g, cap, cur, rfl, hg, hb, h1, h2, h3, h4⟩
  · omega
  · refine ⟨g, cap, cur, rfl, ⟨⟨h.below, fun k b o hk => ?_, fun p hp => ?_, List.pairwise_cons.2 ⟨fun p hp => h.offL _ (List.mem_cons_self ..) g rfl p hp, h.known.desc⟩⟩, fun r hr => h.own r (List.mem_cons_of_mem _ hr), fun r hr g' hg' p hp => ?_, (List.pairwise_cons.1 h.offR).2⟩, h1, h2, h3, h4⟩
    · cases k with
      | zero =>
        simp only [List.getElem?_cons_zero, Option.some.injEq, Prod.mk.injEq] at hk
        obtain ⟨rfl, rfl⟩ := hk
        exact hb
      | succ k => exact h.at k hk
    · rcases List.mem_cons.1 hp with rfl | hp
      · exact hg
      · exact h.known.own p hp
    · rcases List.mem_cons.1 hp with rfl | hp
      · intro e
        dsimp only at e
        subst e
        exact (List.pairwise_cons.1 h.offR).1 r hr g rfl hg'
      · exact h.offL r (List.mem_cons_of_mem _ hr) g' hg' p hp
theorem take_set {cur : Array Value} {m i : Nat} {u : Value} : (cur.setIfInBounds i u).toList.take m = (cur.toList.take m).set i u := by
  rw [Array.toList_setIfInBounds, List.take_set]
/-- a cell of a slice that the call owns is stored -/
theorem Kp.put {L : List (Nat × Obj)} {R : List Rw} {w X : World} {g n cap N sz : Nat} {e : TypeId} {xs : List Value} (h : Kp L (⟨.slice (some ⟨g, 0, none⟩) n cap, e, sz, N, xs⟩ :: R) w X) (h0 : 0 < N) (i : Nat) (u : Value) :
    Kp L (⟨.slice (some ⟨g, 0, none⟩) n cap, e, sz, N, xs.set i u⟩ :: R) w (X.setCell ⟨g, i, none⟩ u) := by
  obtain ⟨g', cap', cur, hv, hk, h1, h2, h3, h4⟩ := h.known_of h0
  simp only [Value.slice.injEq, Option.some.injEq, Addr.mk.injEq, and_true] at hv
  obtain ⟨rfl, rfl, rfl⟩ := hv
  have h5 := (hk.set 0 rfl i u rfl).own_block sz n cap h1 h2 (by rw [Array.size_setIfInBounds]; exact h3)
  rw [take_set, h4] at h5
  exact h5
/-- what a store to such a cell asks -/
theorem Kp.free {L : List (Nat × Obj)} {R : List Rw} {w X : World} {g n cap N sz : Nat} {e : TypeId} {xs : List Value} (h : Kp L (⟨.slice (some ⟨g, 0, none⟩) n cap, e, sz, N, xs⟩ :: R) w X) (h0 : 0 < N) (i : Nat) : X.frozen? ⟨g, i, none⟩ = false := by
  obtain ⟨g', cap', cur, hv, hk, h1, h2, h3, h4⟩ := h.known_of h0
  simp only [Value.slice.injEq, Option.some.injEq, Addr.mk.injEq, and_true] at hv
  obtain ⟨rfl, _, _⟩ := hv
  exact free_at (hk.at 0 rfl) i
theorem Kp.keepTo {L : List (Nat × Obj)} {w X Z : World} {b : Nat} (h : Kp L [] w X) (hB : Below b X Z) (hw : w.heap.size ≤ b) (hL : ∀ p ∈ L, p.1 < b) : Kp L [] w Z :=
  Kp.of ⟨h.below.trans (hB.mono hw), fun k c o hk => (hB.block c (hL (c, o) (List.mem_of_getElem? hk))).trans (h.at k hk), h.known.own, h.known.desc⟩
theorem ownAt {v : Value} {g H n cap : Nat} (h : v.ownBlock = some g ∨ g = H) : (Value.slice (some ⟨g, 0, none⟩) n cap).ownBlock = v.ownBlock ∨ (Value.slice (some ⟨g, 0, none⟩) n cap).ownBlock = some H := by
  rcases h with h | h
  · exact .inl (by rw [h]; rfl)
  · exact .inr (by rw [h]; rfl)
/-- append to the first of the slices, as one step of a region that draws -/
theorem step_append_kp {ops : Array Oper} {o : Oper} {a : Act} {K : Act → World → Prop} {Q : Exit → Act → World → Prop} {E : Prop} {w : World} (hgd : o.guard = none) (s x : Operand) (t : TypeId)
    (ho : o.op = .call { callee := .builtin .append, args := #[s, x], argTypes := #[t, t] }) {L : List (Nat × Obj)} {R : List Rw} {W : World} {v : Value} {e : TypeId} {size n : Nat} {xs : List Value} (h : Kp L (⟨v, e, size, n, xs⟩ :: R) W w)
    (i : TypeInfo) (z : Value) (bytes : Nat) (ht : Tryd.prog.underlying t = some (.slice e)) (hi : Tryd.prog.info? e = some i) (hz : i.zero = some z) (hsize : i.size = size) (hby : i.bytes = bytes) (hzs : z.cells.size = size) (hsz : 0 < size)
    (hs : a.eval s = v) (idx B : Nat) (cs : Array Value) (T : TypeId) (hL : L[idx]? = some (B, .cells cs T (0, 0))) (m c : Nat) (hx : a.eval x = .slice (some ⟨B, 0, none⟩) m c) (hl : cs.toList.length = m * size) (h1 : ∀ u ∈ cs.toList, u.oneCell' = true)
    (hm : 0 < m) (hmax : n + m ≤ 1000000) (hb : bytes ≤ 1000)
    (hK : ∀ g cap w', Kp L (⟨.slice (some ⟨g, 0, none⟩) (n + m) cap, e, size, n + m, xs ++ cs.toList⟩ :: R) W w' → K (a.put o.dst (.slice (some ⟨g, 0, none⟩) (n + m) cap)) w') :
    if Region.wanted o (yielded ops a.tmps) = true then Oper.wp Tryd.prog o a w K Q else E :=
  step_append_lies w hgd s x t ho W.heap.size e i z size bytes ht hi hz hsize hby hzs hsz v n xs hs (h.row 0 rfl) ⟨B, 0, none⟩ m c cs.toList hx hl (World.news_of_block (h.at idx hL)) h1 hm (by unfold maxLen; omega)
    (by have := Nat.mul_le_mul hmax hb; omega) h.below.size w.heap.size rfl
    (fun g cap w' hown hgrow hat _ => hK g cap w' (h.append hown hgrow (ownAt hat)))
end Go.Proofs.YtnffecoohkanhaaDoor.Px
