/- A strings.Builder among blocks, slices and maps that a call owns. -/
import Derived.Test.YtkfgonbopgdmgaaDoorMa
import Derived.Test.YtkfgonbopgdmgaaDoorSla
import Derived.Test.YtkfgonbopgdmgaaDoorBlx
import Derived.Lib.OthersKept
namespace Go.Proofs.YtkfgonbopgdmgaaDoor.Px
open Go.RowKit

theorem own_cells_at {X : World} {B : Nat} {e : TypeId} {sz n g : Nat} {v : Value} {xs : List Value} (h : X.ownsRow B e sz v n xs) (hg : v.ownBlock = some g) : ∃ cur, X.heap[g]? = some (.cells cur e (0, 0)) := by
  rcases h.2 with ⟨rfl, _⟩ | ⟨g', cap, cur, rfl, _, hgb, _⟩
  · cases hg
  · obtain rfl : g' = g := by simpa [Value.ownBlock] using hg
    exact ⟨cur, hgb⟩
/-- a store into a block that is known -/
theorem Km.set {L : List (Nat × Obj)} {R : List Rw} {M : List Mp} {w X : World} (h : Km L R M w X) (k : Nat) {b : Nat} {cs : Array Value} {T : TypeId} (hk : L[k]? = some (b, .cells cs T (0, 0))) (i : Nat) (u : Value) {cs' : Array Value} (he : cs.setIfInBounds i u = cs') :
    Km (L.set k (b, .cells cs' T (0, 0))) R M w (X.setCell ⟨b, i, none⟩ u) := by
  have hg : X.grownBy (X.setCell ⟨b, i, none⟩ u) (some b) := ⟨rfl, rfl, rfl, by simp [World.setCell], fun j _ hj => heap_setCell_other _ _ _ _ (fun e => hj (by rw [e]))⟩
  refine ⟨h.kp.set k hk i u he, fun m hm => (h.map m hm).kept hg (fun e => h.offL m hm _ (List.mem_of_getElem? hk) (Option.some.inj e).symm), h.own, fun m hm p hp => ?_, h.offR, h.offM⟩
  rcases List.mem_or_eq_of_mem_set hp with hp | rfl
  · exact h.offL m hm p hp
  · exact h.offL m hm (b, .cells cs T (0, 0)) (List.mem_of_getElem? hk)
/-- what a callee hands over -/
theorem Km.adopt {L : List (Nat × Obj)} {R R0 : List Rw} {M : List Mp} {w X Z : World} (h : Km L R0 M w X) (k : Kp [] R X Z) : Km L (R ++ R0) M w Z := by
  refine ⟨h.kp.adopt k, fun m hm => (h.map m hm).kept (grown_below k.below) (by simp), h.own, h.offL, fun m hm r hr => ?_, h.offM⟩
  rcases List.mem_append.1 hr with hr | hr
  · intro e
    have h1 := ((k.own r hr).lt _ e).1
    have h2 := (h.map m hm).lt
    omega
  · exact h.offR m hm r hr
theorem Km.less {L : List (Nat × Obj)} {R S : List Rw} {M : List Mp} {w X : World} (h : Km L R M w X) (hs : S.Sublist R) : Km L S M w X :=
  ⟨h.kp.less hs, h.map, h.own, h.offL, fun m hm r hr => h.offR m hm r (hs.subset hr), h.offM⟩
theorem Km.perm {L : List (Nat × Obj)} {R S : List Rw} {M : List Mp} {w X : World} (h : Km L R M w X) (hp : S.Perm R) : Km L S M w X :=
  ⟨h.kp.perm hp, h.map, h.own, h.offL, fun m hm r hr => h.offR m hm r (hp.subset hr), h.offM⟩
theorem Km.pick {L L' : List (Nat × Obj)} {R : List Rw} {M : List Mp} {w X : World} (h : Km L R M w X) (hs : L'.Sublist L) : Km L' R M w X :=
  ⟨h.kp.pick hs, h.map, h.own, fun m hm p hp => h.offL m hm p (hs.subset hp), h.offR, h.offM⟩
/-- a builder that may have been read, and holds l -/
def BuF (B b : Nat) (l : List UInt8) (w : World) : Prop := Lib.IsBuilderF 65 5 B b (Lib.byteCells l) w
theorem BuF.block {B b : Nat} {l : List UInt8} {w : World} (h : BuF B b l w) : B ≤ b ∧ ∃ p v, w.heap[b]? = some (.cells #[p, v] 65 (0, 0)) ∧ w.ownsRowF B 5 1 v (Lib.byteCells l).length (Lib.byteCells l) ∧ v.ownBlock ≠ some b := by
  rcases h with ⟨h1, v, h2⟩ | ⟨h1, v, h2⟩
  · exact ⟨h1, _, v, h2⟩
  · exact ⟨h1, _, v, h2⟩
theorem BuF.kept {B b : Nat} {l : List UInt8} {X Z : World} {row : Option Nat} (h : BuF B b l X) (hg : X.grownBy Z row)
    (hr : ∀ g, row = some g → ∀ c t fz, X.heap[g]? = some (.cells c t fz) → t ≠ 5 ∧ t ≠ 65) : BuF B b l Z := by
  have key : ∀ p, Lib.BuilderAtF 65 5 B b p (Lib.byteCells l) X → Lib.BuilderAtF 65 5 B b p (Lib.byteCells l) Z := by
    rintro p ⟨h1, v, hb, ho, hne⟩
    refine ⟨h1, v, (hg.block b (lt_of_block hb) (fun e => (hr b e.symm _ _ _ hb).2 rfl)).trans hb, ho.kept hg ?_, hne⟩
    cases hv : v.ownBlock with
    | none => exact .inl rfl
    | some g =>
      refine .inr fun e => ?_
      obtain ⟨c, fz, hc⟩ := Lib.ownsRowF_kind ho g hv
      exact (hr g e.symm _ _ _ hc).1 rfl
  exact Or.elim h (fun x => .inl (key _ x)) (fun x => .inr (key _ x))
/-- a builder, known blocks, slices and maps, none of them of the builder's types -/
structure Kq (b : Nat) (l : List UInt8) (L : List (Nat × Obj)) (R : List Rw) (M : List Mp) (w X : World) : Prop where
  km : Km L R M w X
  bu : BuF w.heap.size b l X
  offb : ∀ p ∈ L, p.1 ≠ b
  offL : ∀ p ∈ L, ∀ c fz, p.2 ≠ .cells c 5 fz
  offR : ∀ r ∈ R, r.e ≠ 5 ∧ r.e ≠ 65
theorem Kq.below {b : Nat} {l : List UInt8} {L : List (Nat × Obj)} {R : List Rw} {M : List Mp} {w X : World} (h : Kq b l L R M w X) : Below w.heap.size w X := h.km.below
/-- behind a step of the builder's own -/
theorem Kq.step {b : Nat} {l l' : List UInt8} {L : List (Nat × Obj)} {R : List Rw} {M : List Mp} {w X Z : World} (h : Kq b l L R M w X) (hbu : BuF w.heap.size b l' Z) (hB : Below w.heap.size X Z) (hO : Lib.OthersKept 5 (some b) X Z) : Kq b l' L R M w Z := by
  obtain ⟨_, p0, v0, hb0, _, _⟩ := h.bu.block
  have hrow : ∀ r ∈ R, ∀ g, r.v.ownBlock = some g → Z.heap[g]? = X.heap[g]? := fun r hr g hg => by
    obtain ⟨cur, hc⟩ := own_cells_at (h.km.kp.own r hr) hg
    rw [hc]
    refine hO g _ hc (fun e => ?_) (fun c fz e => ?_)
    · obtain rfl := Option.some.inj e
      rw [hb0] at hc
      have := Option.some.inj hc
      injection this with _ h2 _
      exact (h.offR r hr).2 h2.symm
    · injection e with _ h2 _
      exact (h.offR r hr).1 h2
  refine ⟨⟨⟨⟨h.below.trans hB, fun k c o hk => hO c o (h.km.kp.at k hk) (fun e => h.offb _ (List.mem_of_getElem? hk) (Option.some.inj e)) (h.offL _ (List.mem_of_getElem? hk)), h.km.kp.known.own, h.km.kp.known.desc⟩, fun r hr => ?_, h.km.kp.offL, h.km.kp.offR⟩, fun m hm => ?_, h.km.own, h.km.offL, h.km.offR, h.km.offM⟩, hbu, h.offb, h.offL, h.offR⟩
  · have ho := h.km.kp.own r hr
    refine ⟨ho.1, ?_⟩
    rcases ho.2 with hn | ⟨g, cap, cur, hv, hbg, hg, rest⟩
    · exact .inl hn
    · exact .inr ⟨g, cap, cur, hv, hbg, (hrow r hr g (by rw [hv]; rfl)).trans hg, rest⟩
  · obtain ⟨es, clock, hb, Ft, hs, hD⟩ := h.km.map m hm
    exact ⟨es, clock, hO m.b _ hb (fun e => by obtain e := Option.some.inj e; rw [e, hb0] at hb; cases hb) (fun c fz e => by cases e), Ft, hs, hD⟩
theorem Kq.keep {b : Nat} {l : List UInt8} {L : List (Nat × Obj)} {R : List Rw} {M : List Mp} {w X Z : World} (h : Kq b l L R M w X) (hB : Below X.heap.size X Z) : Kq b l L R M w Z :=
  ⟨h.km.keep hB, h.bu.kept (grown_below hB) (fun g e => by cases e), h.offb, h.offL, h.offR⟩
theorem Kq.adopt {b : Nat} {l : List UInt8} {L : List (Nat × Obj)} {R R0 : List Rw} {M : List Mp} {w X Z : World} (h : Kq b l L R0 M w X) (k : Kp [] R X Z) (hR : ∀ r ∈ R, r.e ≠ 5 ∧ r.e ≠ 65) : Kq b l L (R ++ R0) M w Z :=
  ⟨h.km.adopt k, h.bu.kept (grown_below k.below) (fun g e => by cases e), h.offb, h.offL, fun r hr => by
    rcases List.mem_append.1 hr with hr | hr
    · exact hR r hr
    · exact h.offR r hr⟩
theorem Kq.turn {b : Nat} {l : List UInt8} {L : List (Nat × Obj)} {R : List Rw} {M : List Mp} {m : Mp} {w X Z : World} {n' : Nat} {D' : DataW Unit} (h : Kq b l L R (m :: M) w X) (hg : X.grownBy Z (some m.b)) (ho : Z.ownsMap Tryd.prog m.k (plainElem Tryd.prog m.e) m.b n' D') : Kq b l L R (⟨m.b, m.k, m.e, n', D'⟩ :: M) w Z :=
  ⟨h.km.turn hg ho, h.bu.kept hg (fun g e c t fz hc => by
    obtain rfl := Option.some.inj e
    obtain ⟨es, clock, hb, _⟩ := h.km.map m (List.mem_cons_self ..)
    rw [hb] at hc
    cases hc), h.offb, h.offL, h.offR⟩
theorem Kq.append {b : Nat} {l : List UInt8} {L : List (Nat × Obj)} {R : List Rw} {M : List Mp} {r : Rw} {w X Z : World} {v' : Value} {n' : Nat} {xs' : List Value} (h : Kq b l L (r :: R) M w X) (ho : Z.ownsRow w.heap.size r.e r.sz v' n' xs') (hg : X.grownBy Z r.v.ownBlock)
    (hat : v'.ownBlock = r.v.ownBlock ∨ v'.ownBlock = some X.heap.size) : Kq b l L (⟨v', r.e, r.sz, n', xs'⟩ :: R) M w Z :=
  ⟨h.km.append ho hg hat, h.bu.kept hg (fun g e c t fz hc => by
    obtain ⟨cur, hc2⟩ := own_cells_at (h.km.kp.own r (List.mem_cons_self ..)) e
    rw [hc2] at hc
    have := Option.some.inj hc
    injection this with _ h2 _
    rw [← h2]
    exact h.offR r (List.mem_cons_self ..)), h.offb, h.offL, fun s hs => by
    rcases List.mem_cons.1 hs with rfl | hs
    · exact h.offR r (List.mem_cons_self ..)
    · exact h.offR s (List.mem_cons_of_mem _ hs)⟩
theorem Kq.alloc {b : Nat} {l : List UInt8} {L : List (Nat × Obj)} {R : List Rw} {M : List Mp} {w X : World} (h : Kq b l L R M w X) (o : Obj) (ho : ∀ c fz, o ≠ .cells c 5 fz) : Kq b l ((X.heap.size, o) :: L) R M w (X.alloc o) :=
  ⟨h.km.alloc o, h.bu.kept (World.grownBy_alloc X o none) (fun g e => by cases e), fun p hp => by
    rcases List.mem_cons.1 hp with rfl | hp
    · obtain ⟨_, _, _, hb0, _⟩ := h.bu.block
      exact Nat.ne_of_gt (lt_of_block hb0)
    · exact h.offb p hp, fun p hp => by
    rcases List.mem_cons.1 hp with rfl | hp
    · exact ho
    · exact h.offL p hp, h.offR⟩
theorem Kq.allocAt {b : Nat} {l : List UInt8} {L : List (Nat × Obj)} {R : List Rw} {M : List Mp} {w X : World} (h : Kq b l L R M w X) (k : Nat) (hk : X.heap.size = k) (o : Obj) (ho : ∀ c fz, o ≠ .cells c 5 fz) : Kq b l ((k, o) :: L) R M w (X.alloc o) := by
  subst hk; exact h.alloc o ho
theorem Kq.drop {b : Nat} {l : List UInt8} {p : Nat × Obj} {L : List (Nat × Obj)} {R : List Rw} {M : List Mp} {w X : World} (h : Kq b l (p :: L) R M w X) : Kq b l L R M w X :=
  ⟨h.km.drop, h.bu, fun q hq => h.offb q (List.mem_cons_of_mem _ hq), fun q hq => h.offL q (List.mem_cons_of_mem _ hq), h.offR⟩
theorem Kq.fresh {b : Nat} {l : List UInt8} {L : List (Nat × Obj)} {R : List Rw} {M : List Mp} {w X : World} (h : Kq b l L R M w X) (e : TypeId) (sz : Nat) (he : e ≠ 5 ∧ e ≠ 65) : Kq b l L (⟨.slice none 0 0, e, sz, 0, []⟩ :: R) M w X :=
  ⟨h.km.fresh e sz, h.bu, h.offb, h.offL, fun r hr => by
    rcases List.mem_cons.1 hr with rfl | hr
    · exact he
    · exact h.offR r hr⟩
theorem Kq.less {b : Nat} {l : List UInt8} {L : List (Nat × Obj)} {R S : List Rw} {M : List Mp} {w X : World} (h : Kq b l L R M w X) (hs : S.Sublist R) : Kq b l L S M w X :=
  ⟨h.km.less hs, h.bu, h.offb, h.offL, fun r hr => h.offR r (hs.subset hr)⟩
theorem Kq.perm {b : Nat} {l : List UInt8} {L : List (Nat × Obj)} {R S : List Rw} {M : List Mp} {w X : World} (h : Kq b l L R M w X) (hp : S.Perm R) : Kq b l L S M w X :=
  ⟨h.km.perm hp, h.bu, h.offb, h.offL, fun r hr => h.offR r (hp.subset hr)⟩
end Go.Proofs.YtkfgonbopgdmgaaDoor.Px
