/- Slices that a call owns (they grow by append), kept beside blocks whose contents are known, over calls, new blocks, stores and appends. -/
import Derived.Test.YtgllbagmmpicaaaGreatDoorKn
import Derived.Deep.AppendLies
namespace Go.Proofs.YtgllbagmmpicaaaGreatDoor.Px
open Go.RowKit

/-- a slice that the call owns: its value, its elements' type and cells, how many there are, and the cells -/
structure Rw where
  v : Value
  e : TypeId
  sz : Nat
  n : Nat
  xs : List Value
/-- known blocks L and owned slices R, all made since w -/
structure Kp (L : List (Nat × Obj)) (R : List Rw) (w X : World) : Prop where
  known : Known L w X
  own : ∀ r ∈ R, X.ownsRow w.heap.size r.e r.sz r.v r.n r.xs
  offL : ∀ r ∈ R, ∀ g, r.v.ownBlock = some g → ∀ p ∈ L, p.1 ≠ g
  offR : R.Pairwise (fun r s => ∀ g, r.v.ownBlock = some g → s.v.ownBlock ≠ some g)
theorem Kp.below {L : List (Nat × Obj)} {R : List Rw} {w X : World} (h : Kp L R w X) : Below w.heap.size w X := h.known.below
theorem Kp.at {L : List (Nat × Obj)} {R : List Rw} {w X : World} (h : Kp L R w X) (k : Nat) {b : Nat} {o : Obj} (hk : L[k]? = some (b, o)) : X.heap[b]? = some o := h.known.at k hk
theorem Kp.lt {L : List (Nat × Obj)} {R : List Rw} {w X : World} (h : Kp L R w X) (k : Nat) {b : Nat} {o : Obj} (hk : L[k]? = some (b, o)) : b < X.heap.size := h.known.lt k hk
theorem Kp.row {L : List (Nat × Obj)} {R : List Rw} {w X : World} (h : Kp L R w X) (i : Nat) {r : Rw} (hr : R[i]? = some r) : X.ownsRow w.heap.size r.e r.sz r.v r.n r.xs := h.own r (List.mem_of_getElem? hr)
theorem Kp.of {L : List (Nat × Obj)} {w X : World} (h : Known L w X) : Kp L [] w X := ⟨h, (fun r hr => by cases hr), (fun r hr => by cases hr), List.Pairwise.nil⟩
theorem Kp.start (w : World) : Kp [] [] w w := Kp.of (Known.start w)
theorem grown_below {X Z : World} (hB : Below X.heap.size X Z) : X.grownBy Z none := ⟨hB.os, hB.tape, hB.output, hB.size, fun k hk _ => hB.block k hk⟩
theorem Kp.keep {L : List (Nat × Obj)} {R : List Rw} {w X Z : World} (h : Kp L R w X) (hB : Below X.heap.size X Z) : Kp L R w Z :=
  ⟨h.known.keep hB, fun r hr => (h.own r hr).kept (grown_below hB) (by cases r.v.ownBlock <;> simp), h.offL, h.offR⟩
theorem Kp.call {L : List (Nat × Obj)} {R : List Rw} {w X Y Z : World} (h : Kp L R w X) (hB : Below Y.heap.size Y Z) (he : Y.heap = X.heap) (ho : Y.os = X.os) (ht : Y.tape = X.tape) (hp : Y.output = X.output) : Kp L R w Z :=
  h.keep ⟨hB.os.trans ho, hB.tape.trans ht, hB.output.trans hp, by rw [← he]; exact hB.size, fun k hk => (hB.block k (by rw [he]; exact hk)).trans (by rw [he])⟩
theorem Kp.drew {L : List (Nat × Obj)} {R : List Rw} {w X : World} (h : Kp L R w X) : Kp L R w X.drew := h.call (Below.refl _ _) rfl rfl rfl rfl
theorem Kp.alloc {L : List (Nat × Obj)} {R : List Rw} {w X : World} (h : Kp L R w X) (o : Obj) : Kp ((X.heap.size, o) :: L) R w (X.alloc o) :=
  ⟨h.known.alloc o, fun r hr => (h.own r hr).alloc o, fun r hr g hg p hp => by
    rcases List.mem_cons.1 hp with rfl | hp
    · have := ((h.own r hr).lt g hg).2
      dsimp only
      omega
    · exact h.offL r hr g hg p hp, h.offR⟩
theorem Kp.allocAt {L : List (Nat × Obj)} {R : List Rw} {w X : World} (h : Kp L R w X) (b : Nat) (hb : X.heap.size = b) (o : Obj) : Kp ((b, o) :: L) R w (X.alloc o) := by
  subst hb; exact h.alloc o
theorem Kp.pick {L M : List (Nat × Obj)} {R : List Rw} {w X : World} (h : Kp L R w X) (hs : M.Sublist L) : Kp M R w X :=
  ⟨h.known.pick hs, h.own, fun r hr g hg p hp => h.offL r hr g hg p (hs.subset hp), h.offR⟩
theorem Kp.drop {p : Nat × Obj} {L : List (Nat × Obj)} {R : List Rw} {w X : World} (h : Kp (p :: L) R w X) : Kp L R w X := h.pick (List.sublist_cons_self _ _)
/-- a slice that is nil yet -/
theorem Kp.fresh {L : List (Nat × Obj)} {R : List Rw} {w X : World} (h : Kp L R w X) (e : TypeId) (sz : Nat) : Kp L (⟨.slice none 0 0, e, sz, 0, []⟩ :: R) w X :=
  ⟨h.known, fun r hr => by
    rcases List.mem_cons.1 hr with rfl | hr
    · exact World.ownsRow_nil _ _ _ _
    · exact h.own r hr, fun r hr g hg => by
    rcases List.mem_cons.1 hr with rfl | hr
    · simp [Value.ownBlock] at hg
    · exact h.offL r hr g hg, List.pairwise_cons.2 ⟨fun s _ g hg => by simp [Value.ownBlock] at hg, h.offR⟩⟩
/-- a slice whose block is known, as a slice that the call owns -/
theorem Kp.own_block {L : List (Nat × Obj)} {R : List Rw} {w X : World} {b : Nat} {cs : Array Value} {T : TypeId} (h : Kp ((b, .cells cs T (0, 0)) :: L) R w X) (sz n cap : Nat) (hn : n ≤ cap) (hc : cap ≤ maxLen) (hs : cs.size = cap * sz) :
    Kp L (⟨.slice (some ⟨b, 0, none⟩) n cap, T, sz, n, cs.toList.take (n * sz)⟩ :: R) w X := by
  have hb := h.at 0 rfl
  have hob : w.heap.size ≤ b := h.known.own _ (List.mem_cons_self ..)
  refine ⟨h.known.drop, fun r hr => ?_, fun r hr g hg p hp => ?_, List.pairwise_cons.2 ⟨fun s hs g hg e => ?_, h.offR⟩⟩
  · rcases List.mem_cons.1 hr with rfl | hr
    · refine ⟨?_, .inr ⟨b, cap, cs, rfl, hob, hb, hn, hc, hs, rfl⟩⟩
      rw [List.length_take, Array.length_toList, hs]
      exact Nat.min_eq_left (Nat.mul_le_mul_right _ hn)
    · exact h.own r hr
  · rcases List.mem_cons.1 hr with rfl | hr
    · have hg' : b = g := by simpa [Value.ownBlock] using hg
      subst hg'
      exact (List.pairwise_cons.1 h.known.desc).1 p hp
    · exact h.offL r hr g hg p (List.mem_cons_of_mem _ hp)
  · have hg' : b = g := by simpa [Value.ownBlock] using hg
    subst hg'
    exact h.offL s hs _ e _ (List.mem_cons_self ..) rfl
theorem Kp.set {L : List (Nat × Obj)} {R : List Rw} {w X : World} (h : Kp L R w X) (k : Nat) {b : Nat} {cs : Array Value} {T : TypeId} (hk : L[k]? = some (b, .cells cs T (0, 0))) (i : Nat) (u : Value) {cs' : Array Value} (he : cs.setIfInBounds i u = cs') :
    Kp (L.set k (b, .cells cs' T (0, 0))) R w (X.setCell ⟨b, i, none⟩ u) := by
  refine ⟨h.known.set k hk i u he, fun r hr => ?_, fun r hr g hg p hp => ?_, h.offR⟩
  · refine (h.own r hr).kept (row := some b) ⟨rfl, rfl, rfl, by rw [World.size_setCell]; exact Nat.le_refl _, fun j hj hne => Below.heap_setCell _ _ _ _ (fun e => hne (by rw [e]))⟩ ?_
    cases hv : r.v.ownBlock with
    | none => exact .inl rfl
    | some g =>
      right
      intro e
      simp only [Option.some.injEq] at e
      exact h.offL r hr g hv _ (List.mem_of_getElem? hk) e.symm
  · rcases List.mem_or_eq_of_mem_set hp with hp | rfl
    · exact h.offL r hr g hg p hp
    · exact h.offL r hr g hg (b, .cells cs T (0, 0)) (List.mem_of_getElem? hk)
/-- behind an append to the first of the slices -/
theorem Kp.append {L : List (Nat × Obj)} {R : List Rw} {r : Rw} {w X Z : World} {v' : Value} {n' : Nat} {xs' : List Value} (h : Kp L (r :: R) w X) (ho : Z.ownsRow w.heap.size r.e r.sz v' n' xs') (hg : X.grownBy Z r.v.ownBlock)
    (hat : v'.ownBlock = r.v.ownBlock ∨ v'.ownBlock = some X.heap.size) : Kp L (⟨v', r.e, r.sz, n', xs'⟩ :: R) w Z := by
  have hr0 := h.own r (List.mem_cons_self ..)
  have hbl : ∀ b, b < X.heap.size → some b ≠ r.v.ownBlock → Z.heap[b]? = X.heap[b]? := hg.block
  obtain ⟨hp1, hp2⟩ := List.pairwise_cons.1 h.offR
  refine ⟨⟨⟨hg.os.trans h.below.os, hg.tape.trans h.below.tape, hg.output.trans h.below.output, Nat.le_trans h.below.size hg.size, fun k hk => ?_⟩, fun k b o hk => ?_, h.known.own, h.known.desc⟩, fun s hs => ?_, fun s hs g hgs p hp => ?_, List.pairwise_cons.2 ⟨fun s hs g hgs e => ?_, hp2⟩⟩
  · refine (hbl k (Nat.lt_of_lt_of_le hk h.below.size) (fun e => ?_)).trans (h.below.block k hk)
    have := (hr0.lt k e.symm).1
    omega
  · refine (hbl b (h.lt k hk) (fun e => ?_)).trans (h.at k hk)
    exact h.offL r (List.mem_cons_self ..) b e.symm _ (List.mem_of_getElem? hk) rfl
  · rcases List.mem_cons.1 hs with rfl | hs
    · exact ho
    · refine (h.own s (List.mem_cons_of_mem _ hs)).kept hg ?_
      cases hv : s.v.ownBlock with
      | none => exact .inl rfl
      | some g => exact .inr (fun e => hp1 s hs g e.symm hv)
  · rcases List.mem_cons.1 hs with rfl | hs
    · rcases hat with hat | hat
      · exact h.offL r (List.mem_cons_self ..) g (hat.symm.trans hgs) p hp
      · have e : X.heap.size = g := Option.some.inj (hat.symm.trans hgs)
        obtain ⟨k, hk, rfl⟩ := List.getElem_of_mem hp
        have := h.lt k (b := L[k].1) (o := L[k].2) (by rw [List.getElem?_eq_getElem hk])
        omega
    · exact h.offL s (List.mem_cons_of_mem _ hs) g hgs p hp
  · rcases hat with hat | hat
    · exact hp1 s hs g (hat.symm.trans hgs) e
    · have e2 : X.heap.size = g := Option.some.inj (hat.symm.trans hgs)
      have := ((h.own s (List.mem_cons_of_mem _ hs)).lt g e).2
      omega
/-- the slices in another order -/
theorem Kp.perm {L : List (Nat × Obj)} {R S : List Rw} {w X : World} (h : Kp L R w X) (hp : S.Perm R) : Kp L S w X :=
  ⟨h.known, fun r hr => h.own r (hp.subset hr), fun r hr => h.offL r (hp.subset hr), (hp.pairwise_iff (fun {_ _} hab g hb ha => hab g ha hb)).2 h.offR⟩
theorem Kp.swap {L : List (Nat × Obj)} {R : List Rw} {r s : Rw} {w X : World} (h : Kp L (r :: s :: R) w X) : Kp L (s :: r :: R) w X := h.perm (List.Perm.swap r s R)
theorem Kp.less {L : List (Nat × Obj)} {R S : List Rw} {w X : World} (h : Kp L R w X) (hs : S.Sublist R) : Kp L S w X :=
  ⟨h.known, fun r hr => h.own r (hs.subset hr), fun r hr => h.offL r (hs.subset hr), h.offR.sublist hs⟩
/-- the cells of a slice that the call owns -/
theorem own_cells {X : World} {B : Nat} {e : TypeId} {sz n : Nat} {v : Value} {xs : List Value} (h : X.ownsRow B e sz v n xs) : (n = 0 ∧ v = .slice none 0 0) ∨ ∃ g cap, v = .slice (some ⟨g, 0, none⟩) n cap ∧ n ≤ cap ∧ cap ≤ maxLen ∧ g < X.heap.size ∧ ∀ (j : Nat) (u : Value), xs[j]? = some u → X.cell? ⟨g, j, none⟩ = some u := by
  rcases h.2 with ⟨h1, h2⟩ | ⟨g, cap, cur, rfl, _, hg, hn, hm, _⟩
  · exact .inl ⟨h2, h1⟩
  · refine .inr ⟨g, cap, rfl, hn, hm, lt_of_block hg, fun j u hu => ?_⟩
    have := h.cells (g := g) rfl j u hu
    rw [show (⟨g, 0, none⟩ : Addr).add j = ⟨g, j, none⟩ by unfold Addr.add; split <;> simp_all] at this
    exact this
end Go.Proofs.YtgllbagmmpicaaaGreatDoor.Px
