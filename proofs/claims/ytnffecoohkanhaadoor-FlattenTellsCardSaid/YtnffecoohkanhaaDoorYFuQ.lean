/- What the walk of FlattenTells needs: both ways that Links may end, and blocks and slices told apart by their types. -/
import Derived.Test.YtnffecoohkanhaaDoorYFuP
import Derived.Test.YtnffecoohkanhaaDoorYFtL
import Derived.Test.YtnffecoohkanhaaDoorYKa
namespace Go.Proofs.YtnffecoohkanhaaDoor.Px
open Go.RowKit
open Go.Maps (Keyed)
open Lk St

theorem check_zero {Z : List (List UInt8)} {L : List (List UInt8 × List UInt8)} {ok : List UInt8 → Bool} (h : (checkL Z L ok).2 = 0) : checkL Z L ok = ((0, 0), 0) := by
  have hs : ∀ {f : Nat → Int} {n i : Nat}, scan f n = some i → f i ≠ 0 := fun {f n i} q => by
    unfold scan at q
    have := List.find?_some q
    simpa using this
  unfold checkL at h ⊢
  cases h1 : scan (zoneE Z ok) Z.length with
  | some i => rw [h1] at h; exact absurd h (hs h1)
  | none =>
    rw [h1] at h
    cases h2 : scan (linkE Z L ok) L.length with
    | some i => rw [h2] at h; exact absurd h (hs h2)
    | none =>
      rw [h2] at h
      cases h3 : scan (loopE Z L) L.length with
      | some i => rw [h3] at h; simp at h
      | none => rfl
/-- how Links ends -/
def LinksE (er : Int) (D : List RuQ) (T : List ZnT) (Ls : List (List UInt8 × List UInt8)) (Sh : List (List UInt8)) (a b c d : Nat) (W : World) (e : Ending) (w' : World) : Prop :=
  ∃ v, e = .returned (.tuple #[v, .int .i64 er]) ∧ SrcA w' v D T Ls Sh ∧ SlQ v a b c d ∧ Below W.heap.size W w'
theorem slq_nil : SlQ (.agg #[.slice none 0 0, .slice none 0 0, .slice none 0 0, .slice none 0 0]) 0 0 0 0 := ⟨_, _, _, _, _, _, _, _, rfl⟩
theorem links_both (D : List RuQ) (T : List ZnT) (Q : List Zo) (Ls : List (List UInt8 × List UInt8)) (Sh : List (List UInt8)) (hf : Few D T Ls Sh) : ∃ (er : Int) (D1 : List RuQ) (T1 : List ZnT) (L1 : List (List UInt8 × List UInt8)) (S1 : List (List UInt8)) (a b c d : Nat),
    (∀ (W : World) (rv zv lv sv : Value), SrcP W rv zv lv sv D T Q Ls Sh → Calls Tryd.prog 14 #[.agg #[rv, zv, lv, sv]] W (LinksE er D1 T1 L1 S1 a b c d W)) ∧
    (∀ (W : World) (rv zv lv sv : Value), SrcP W rv zv lv sv D T Q Ls Sh → Calls Tryd.prog 15 #[.agg #[rv, zv, lv, sv]] W (LinksE er D1 T1 L1 S1 a b c d W)) := by
  have h2 := hf.t; have h3 := hf.l
  by_cases h0 : (checkL (znames Q) Ls zoneOk).2 = 0
  · have hck := check_zero h0
    exact ⟨0, D, T, flatL (znames Q) Ls, Sh, D.length, T.length, Ls.length, Sh.length, fun W rv zv lv sv h => linksP_ok h hf hck, fun W rv zv lv sv h => rlinksP_ok h hf hck⟩
  · refine ⟨(checkL (znames Q) Ls zoneOk).2, [], [], [], [], 0, 0, 0, 0, fun W rv zv lv sv h => (linksP_no h hf rfl h0).mono ?_, fun W rv zv lv sv h => (rlinks_no rv zv lv sv Q Ls W h.src (by omega) (by have := h.zt.len; omega) _ rfl h0).mono ?_⟩
    · rintro e w' ⟨rfl, hb⟩
      exact ⟨_, rfl, SrcA.nil w', slq_nil, hb⟩
    · rintro e w' ⟨rfl, hb⟩
      exact ⟨_, rfl, SrcA.nil w', slq_nil, hb⟩
theorem own_blockT {X : World} {B : Nat} {e : TypeId} {sz n g : Nat} {v : Value} {xs : List Value} (h : X.ownsRow B e sz v n xs) (hg : v.ownBlock = some g) : ∃ cur, X.heap[g]? = some (.cells cur e (0, 0)) := by
  rcases h.2 with ⟨rfl, _⟩ | ⟨g', cap, cur, rfl, _, hgb, _⟩
  · cases hg
  · obtain rfl : g' = g := by simpa [Value.ownBlock] using hg
    exact ⟨cur, hgb⟩
/-- one known block, and slices whose elements have other types -/
theorem kp_types {W X : World} (hB : Below W.heap.size W X) {b : Nat} {cs : Array Value} {T : TypeId} {R : List Rw} (hb : X.heap[b]? = some (.cells cs T (0, 0))) (hw : W.heap.size ≤ b) (hR : ∀ r ∈ R, X.ownsRow W.heap.size r.e r.sz r.v r.n r.xs) (ht : ∀ r ∈ R, r.e ≠ T) (hp : R.Pairwise (fun r s => r.e ≠ s.e)) :
    Kp [(b, .cells cs T (0, 0))] R W X := by
  refine ⟨⟨hB, fun k b' o hk => ?_, fun p hp => ?_, List.pairwise_singleton _ _⟩, hR, fun r hr g hg p hp => ?_, ?_⟩
  · cases k with
    | zero =>
      simp only [List.getElem?_cons_zero, Option.some.injEq, Prod.mk.injEq] at hk
      obtain ⟨rfl, rfl⟩ := hk
      exact hb
    | succ k => simp at hk
  · rw [List.mem_singleton.1 hp]
    exact hw
  · rw [List.mem_singleton.1 hp]
    intro e
    obtain ⟨cur, hc⟩ := own_blockT (hR r hr) hg
    have e : b = g := e
    rw [← e, hb] at hc
    simp only [Option.some.injEq, Obj.cells.injEq] at hc
    exact ht r hr hc.2.1.symm
  · refine hp.imp_of_mem fun {r s} hr hs hrs g hg hg' => ?_
    obtain ⟨c1, h1⟩ := own_blockT (hR r hr) hg
    obtain ⟨c2, h2⟩ := own_blockT (hR s hs) hg'
    rw [h1] at h2
    simp only [Option.some.injEq, Obj.cells.injEq] at h2
    exact hrs h2.2.1
/-- the same with two known blocks -/
theorem kp_types2 {W X : World} (hB : Below W.heap.size W X) {b c : Nat} {cs ds : Array Value} {T : TypeId} {R : List Rw} (hb : X.heap[b]? = some (.cells cs T (0, 0))) (hc : X.heap[c]? = some (.cells ds T (0, 0))) (hw : W.heap.size ≤ c) (hcb : c < b) (hR : ∀ r ∈ R, X.ownsRow W.heap.size r.e r.sz r.v r.n r.xs) (ht : ∀ r ∈ R, r.e ≠ T) (hp : R.Pairwise (fun r s => r.e ≠ s.e)) :
    Kp [(b, .cells cs T (0, 0)), (c, .cells ds T (0, 0))] R W X := by
  have k := kp_types hB hb (by omega) hR ht hp
  refine ⟨⟨hB, fun j b' o hk => ?_, fun p hp => ?_, ?_⟩, hR, fun r hr g hg p hp => ?_, k.offR⟩
  · match j, hk with
    | 0, hk =>
      simp only [List.getElem?_cons_zero, Option.some.injEq, Prod.mk.injEq] at hk
      obtain ⟨rfl, rfl⟩ := hk
      exact hb
    | 1, hk =>
      simp only [List.getElem?_cons_succ, List.getElem?_cons_zero, Option.some.injEq, Prod.mk.injEq] at hk
      obtain ⟨rfl, rfl⟩ := hk
      exact hc
    | j + 2, hk => simp at hk
  · simp only [List.mem_cons, List.not_mem_nil, or_false] at hp
    rcases hp with rfl | rfl
    · show W.heap.size ≤ b
      omega
    · exact hw
  · refine List.pairwise_cons.2 ⟨fun p hp => ?_, List.pairwise_singleton _ _⟩
    rw [List.mem_singleton.1 hp]
    show c ≠ b
    omega
  · simp only [List.mem_cons, List.not_mem_nil, or_false] at hp
    rcases hp with rfl | rfl
    · exact k.offL r hr g hg _ (List.mem_cons_self ..)
    · intro e
      obtain ⟨cur, h2⟩ := own_blockT (hR r hr) hg
      have e : c = g := e
      rw [← e, hc] at h2
      simp only [Option.some.injEq, Obj.cells.injEq] at h2
      exact ht r hr h2.2.1.symm
theorem own_keepB {X Z : World} {B : Nat} {e : TypeId} {sz n : Nat} {v : Value} {xs : List Value} (h : X.ownsRow B e sz v n xs) (hB : Below X.heap.size X Z) : Z.ownsRow B e sz v n xs := h.kept (grown_below hB) (by cases v.ownBlock <;> simp)
end Go.Proofs.YtnffecoohkanhaaDoor.Px
