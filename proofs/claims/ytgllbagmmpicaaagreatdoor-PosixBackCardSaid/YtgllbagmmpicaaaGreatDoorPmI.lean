/- The law PosixBack returns true for every two TZs by numbers: the walk. -/
import Derived.Test.YtgllbagmmpicaaaGreatDoorPmX
import Derived.Test.YtgllbagmmpicaaaGreatDoorPmB
import Derived.Test.YtgllbagmmpicaaaGreatDoorKp
import Derived.Deep.RegionHeld3
import Derived.Test.YtgllbagmmpicaaaGreatDoorPwX
import Derived.Test.YtgllbagmmpicaaaGreatDoorPrS
import Derived.Test.YtgllbagmmpicaaaGreatDoorPzR
import Derived.Test.YtgllbagmmpicaaaGreatDoorPxQ
namespace Go.Proofs.YtgllbagmmpicaaaGreatDoor.Px
open Go.RowKit
open Civ

theorem bytes_eq {x y : ByteArray} (h : x.toList = y.toList) : x = y := by
  apply ByteArray.ext
  apply Array.ext'
  rw [← ByteArray.toList_eq, ← ByteArray.toList_eq, h]
theorem pos_eq {a c a' c' : ByteArray} {b o e1 e2 e3 e4 e5 g1 g2 g3 g4 g5 b' o' e1' e2' e3' e4' e5' g1' g2' g3' g4' g5' : Int} (h1 : a.toList = a'.toList) (h2 : b = b') (h3 : c.toList = c'.toList) (h4 : o = o') (h5 : e1 = e1') (h6 : e2 = e2') (h7 : e3 = e3') (h8 : e4 = e4') (h9 : e5 = e5') (h10 : g1 = g1') (h11 : g2 = g2') (h12 : g3 = g3') (h13 : g4 = g4') (h14 : g5 = g5') :
    (⟨a, b, c, o, ⟨e1, e2, e3, e4, e5⟩, ⟨g1, g2, g3, g4, g5⟩⟩ : Pos) = ⟨a', b', c', o', ⟨e1', e2', e3', e4', e5'⟩, ⟨g1', g2', g3', g4', g5'⟩⟩ := by
  rw [bytes_eq h1, h2, bytes_eq h3, h4, h5, h6, h7, h8, h9, h10, h11, h12, h13, h14]
theorem hs_alloc (X : World) (o : Obj) : (X.alloc o).heap.size = X.heap.size + 1 := by simp
theorem mi_below {L : List (Nat × Obj)} {W X : World} {n0 n1 o0 o1 k0 k1 d0 d1 s0 s1 n2 n3 o2 o3 k2 k3 d2 d3 s2 s3 : Int} {q q2 : Bool} (h : Kp (L ++ [(W.heap.size + 1, .cells #[.int .u8 n2, .int .u8 n3, .int .u8 o2, .int .u8 o3, .int .u8 k2, .int .u8 k3, .int .u8 d2, .int .u8 d3, .int .u8 s2, .int .u8 s3, .bool q2] 41 (0, 0)), (W.heap.size, .cells #[.int .u8 n0, .int .u8 n1, .int .u8 o0, .int .u8 o1, .int .u8 k0, .int .u8 k1, .int .u8 d0, .int .u8 d1, .int .u8 s0, .int .u8 s1, .bool q] 41 (0, 0))]) [] W X) : Below (W.heap.size + 2) ((W.alloc (.cells #[.int .u8 n0, .int .u8 n1, .int .u8 o0, .int .u8 o1, .int .u8 k0, .int .u8 k1, .int .u8 d0, .int .u8 d1, .int .u8 s0, .int .u8 s1, .bool q] 41)).alloc (.cells #[.int .u8 n2, .int .u8 n3, .int .u8 o2, .int .u8 o3, .int .u8 k2, .int .u8 k3, .int .u8 d2, .int .u8 d3, .int .u8 s2, .int .u8 s3, .bool q2] 41)) X := by
  have hb := h.below
  have K0 := ((Kp.start W).alloc (.cells #[.int .u8 n0, .int .u8 n1, .int .u8 o0, .int .u8 o1, .int .u8 k0, .int .u8 k1, .int .u8 d0, .int .u8 d1, .int .u8 s0, .int .u8 s1, .bool q] 41)).allocAt (W.heap.size + 1) (by simp) (.cells #[.int .u8 n2, .int .u8 n3, .int .u8 o2, .int .u8 o3, .int .u8 k2, .int .u8 k3, .int .u8 d2, .int .u8 d3, .int .u8 s2, .int .u8 s3, .bool q2] 41)
  have h0 := h.at L.length (b := W.heap.size + 1) (o := .cells #[.int .u8 n2, .int .u8 n3, .int .u8 o2, .int .u8 o3, .int .u8 k2, .int .u8 k3, .int .u8 d2, .int .u8 d3, .int .u8 s2, .int .u8 s3, .bool q2] 41 (0, 0)) (by simp)
  have h1 := h.at (L.length + 1) (b := W.heap.size) (o := .cells #[.int .u8 n0, .int .u8 n1, .int .u8 o0, .int .u8 o1, .int .u8 k0, .int .u8 k1, .int .u8 d0, .int .u8 d1, .int .u8 s0, .int .u8 s1, .bool q] 41 (0, 0)) (by simp)
  refine ⟨hb.os, hb.tape, hb.output, ?_, fun k hk => ?_⟩
  · have := lt_of_block h0
    simp
    omega
  · rcases (show k < W.heap.size ∨ k = W.heap.size ∨ k = W.heap.size + 1 by omega) with h | rfl | rfl
    · exact (hb.block k h).trans (K0.below.block k h).symm
    · exact h1.trans (K0.at 1 rfl).symm
    · exact h0.trans (K0.at 0 rfl).symm
theorem Kp.set1 {L : List (Nat × Obj)} {R : List Rw} {w X : World} {k b : Nat} {cs cs' : Array Value} {T : TypeId} (h : Kp (L.set k (b, .cells cs T (0, 0))) R w X) (hl : k < L.length) (i : Nat) (u : Value) (he : cs.setIfInBounds i u = cs') :
    Kp (L.set k (b, .cells cs' T (0, 0))) R w (X.setCell ⟨b, i, none⟩ u) := by
  have h2 := h.set k (b := b) (cs := cs) (T := T) (List.getElem?_set_self hl) i u he
  rwa [List.set_set] at h2
set_option maxHeartbeats 2000000 in
theorem Kp.set14 {L : List (Nat × Obj)} {R : List Rw} {w X : World} (h : Kp L R w X) (k : Nat) {b : Nat} {T : TypeId} {z0 z1 z2 z3 z4 z5 z6 z7 z8 z9 z10 z11 z12 z13 : Value} (hk : L[k]? = some (b, .cells #[z0, z1, z2, z3, z4, z5, z6, z7, z8, z9, z10, z11, z12, z13] T (0, 0))) (u0 u1 u2 u3 u4 u5 u6 u7 u8 u9 u10 u11 u12 u13 : Value) :
    Kp (L.set k (b, .cells #[u0, u1, u2, u3, u4, u5, u6, u7, u8, u9, u10, u11, u12, u13] T (0, 0))) R w ((((((((((((((X.setCell ⟨b, 0, none⟩ u0).setCell ⟨b, 1, none⟩ u1).setCell ⟨b, 2, none⟩ u2).setCell ⟨b, 3, none⟩ u3).setCell ⟨b, 4, none⟩ u4).setCell ⟨b, 5, none⟩ u5).setCell ⟨b, 6, none⟩ u6).setCell ⟨b, 7, none⟩ u7).setCell ⟨b, 8, none⟩ u8).setCell ⟨b, 9, none⟩ u9).setCell ⟨b, 10, none⟩ u10).setCell ⟨b, 11, none⟩ u11).setCell ⟨b, 12, none⟩ u12).setCell ⟨b, 13, none⟩ u13) := by
  obtain ⟨hl, he⟩ := List.getElem?_eq_some_iff.1 hk
  have h1 : Kp (L.set k (b, .cells #[z0, z1, z2, z3, z4, z5, z6, z7, z8, z9, z10, z11, z12, z13] T (0, 0))) R w X := by rw [← he, List.set_getElem_self]; exact h
  have h2 : Kp (L.set k (b, .cells #[u0, z1, z2, z3, z4, z5, z6, z7, z8, z9, z10, z11, z12, z13] T (0, 0))) R w (X.setCell ⟨b, 0, none⟩ u0) := h1.set1 hl 0 u0 rfl
  have h3 : Kp (L.set k (b, .cells #[u0, u1, z2, z3, z4, z5, z6, z7, z8, z9, z10, z11, z12, z13] T (0, 0))) R w ((X.setCell ⟨b, 0, none⟩ u0).setCell ⟨b, 1, none⟩ u1) := h2.set1 hl 1 u1 rfl
  have h4 : Kp (L.set k (b, .cells #[u0, u1, u2, z3, z4, z5, z6, z7, z8, z9, z10, z11, z12, z13] T (0, 0))) R w (((X.setCell ⟨b, 0, none⟩ u0).setCell ⟨b, 1, none⟩ u1).setCell ⟨b, 2, none⟩ u2) := h3.set1 hl 2 u2 rfl
  have h5 : Kp (L.set k (b, .cells #[u0, u1, u2, u3, z4, z5, z6, z7, z8, z9, z10, z11, z12, z13] T (0, 0))) R w ((((X.setCell ⟨b, 0, none⟩ u0).setCell ⟨b, 1, none⟩ u1).setCell ⟨b, 2, none⟩ u2).setCell ⟨b, 3, none⟩ u3) := h4.set1 hl 3 u3 rfl
  have h6 : Kp (L.set k (b, .cells #[u0, u1, u2, u3, u4, z5, z6, z7, z8, z9, z10, z11, z12, z13] T (0, 0))) R w (((((X.setCell ⟨b, 0, none⟩ u0).setCell ⟨b, 1, none⟩ u1).setCell ⟨b, 2, none⟩ u2).setCell ⟨b, 3, none⟩ u3).setCell ⟨b, 4, none⟩ u4) := h5.set1 hl 4 u4 rfl
  have h7 : Kp (L.set k (b, .cells #[u0, u1, u2, u3, u4, u5, z6, z7, z8, z9, z10, z11, z12, z13] T (0, 0))) R w ((((((X.setCell ⟨b, 0, none⟩ u0).setCell ⟨b, 1, none⟩ u1).setCell ⟨b, 2, none⟩ u2).setCell ⟨b, 3, none⟩ u3).setCell ⟨b, 4, none⟩ u4).setCell ⟨b, 5, none⟩ u5) := h6.set1 hl 5 u5 rfl
  have h8 : Kp (L.set k (b, .cells #[u0, u1, u2, u3, u4, u5, u6, z7, z8, z9, z10, z11, z12, z13] T (0, 0))) R w (((((((X.setCell ⟨b, 0, none⟩ u0).setCell ⟨b, 1, none⟩ u1).setCell ⟨b, 2, none⟩ u2).setCell ⟨b, 3, none⟩ u3).setCell ⟨b, 4, none⟩ u4).setCell ⟨b, 5, none⟩ u5).setCell ⟨b, 6, none⟩ u6) := h7.set1 hl 6 u6 rfl
  have h9 : Kp (L.set k (b, .cells #[u0, u1, u2, u3, u4, u5, u6, u7, z8, z9, z10, z11, z12, z13] T (0, 0))) R w ((((((((X.setCell ⟨b, 0, none⟩ u0).setCell ⟨b, 1, none⟩ u1).setCell ⟨b, 2, none⟩ u2).setCell ⟨b, 3, none⟩ u3).setCell ⟨b, 4, none⟩ u4).setCell ⟨b, 5, none⟩ u5).setCell ⟨b, 6, none⟩ u6).setCell ⟨b, 7, none⟩ u7) := h8.set1 hl 7 u7 rfl
  have h10 : Kp (L.set k (b, .cells #[u0, u1, u2, u3, u4, u5, u6, u7, u8, z9, z10, z11, z12, z13] T (0, 0))) R w (((((((((X.setCell ⟨b, 0, none⟩ u0).setCell ⟨b, 1, none⟩ u1).setCell ⟨b, 2, none⟩ u2).setCell ⟨b, 3, none⟩ u3).setCell ⟨b, 4, none⟩ u4).setCell ⟨b, 5, none⟩ u5).setCell ⟨b, 6, none⟩ u6).setCell ⟨b, 7, none⟩ u7).setCell ⟨b, 8, none⟩ u8) := h9.set1 hl 8 u8 rfl
  have h11 : Kp (L.set k (b, .cells #[u0, u1, u2, u3, u4, u5, u6, u7, u8, u9, z10, z11, z12, z13] T (0, 0))) R w ((((((((((X.setCell ⟨b, 0, none⟩ u0).setCell ⟨b, 1, none⟩ u1).setCell ⟨b, 2, none⟩ u2).setCell ⟨b, 3, none⟩ u3).setCell ⟨b, 4, none⟩ u4).setCell ⟨b, 5, none⟩ u5).setCell ⟨b, 6, none⟩ u6).setCell ⟨b, 7, none⟩ u7).setCell ⟨b, 8, none⟩ u8).setCell ⟨b, 9, none⟩ u9) := h10.set1 hl 9 u9 rfl
  have h12 : Kp (L.set k (b, .cells #[u0, u1, u2, u3, u4, u5, u6, u7, u8, u9, u10, z11, z12, z13] T (0, 0))) R w (((((((((((X.setCell ⟨b, 0, none⟩ u0).setCell ⟨b, 1, none⟩ u1).setCell ⟨b, 2, none⟩ u2).setCell ⟨b, 3, none⟩ u3).setCell ⟨b, 4, none⟩ u4).setCell ⟨b, 5, none⟩ u5).setCell ⟨b, 6, none⟩ u6).setCell ⟨b, 7, none⟩ u7).setCell ⟨b, 8, none⟩ u8).setCell ⟨b, 9, none⟩ u9).setCell ⟨b, 10, none⟩ u10) := h11.set1 hl 10 u10 rfl
  have h13 : Kp (L.set k (b, .cells #[u0, u1, u2, u3, u4, u5, u6, u7, u8, u9, u10, u11, z12, z13] T (0, 0))) R w ((((((((((((X.setCell ⟨b, 0, none⟩ u0).setCell ⟨b, 1, none⟩ u1).setCell ⟨b, 2, none⟩ u2).setCell ⟨b, 3, none⟩ u3).setCell ⟨b, 4, none⟩ u4).setCell ⟨b, 5, none⟩ u5).setCell ⟨b, 6, none⟩ u6).setCell ⟨b, 7, none⟩ u7).setCell ⟨b, 8, none⟩ u8).setCell ⟨b, 9, none⟩ u9).setCell ⟨b, 10, none⟩ u10).setCell ⟨b, 11, none⟩ u11) := h12.set1 hl 11 u11 rfl
  have h14 : Kp (L.set k (b, .cells #[u0, u1, u2, u3, u4, u5, u6, u7, u8, u9, u10, u11, u12, z13] T (0, 0))) R w (((((((((((((X.setCell ⟨b, 0, none⟩ u0).setCell ⟨b, 1, none⟩ u1).setCell ⟨b, 2, none⟩ u2).setCell ⟨b, 3, none⟩ u3).setCell ⟨b, 4, none⟩ u4).setCell ⟨b, 5, none⟩ u5).setCell ⟨b, 6, none⟩ u6).setCell ⟨b, 7, none⟩ u7).setCell ⟨b, 8, none⟩ u8).setCell ⟨b, 9, none⟩ u9).setCell ⟨b, 10, none⟩ u10).setCell ⟨b, 11, none⟩ u11).setCell ⟨b, 12, none⟩ u12) := h13.set1 hl 12 u12 rfl
  have h15 : Kp (L.set k (b, .cells #[u0, u1, u2, u3, u4, u5, u6, u7, u8, u9, u10, u11, u12, u13] T (0, 0))) R w ((((((((((((((X.setCell ⟨b, 0, none⟩ u0).setCell ⟨b, 1, none⟩ u1).setCell ⟨b, 2, none⟩ u2).setCell ⟨b, 3, none⟩ u3).setCell ⟨b, 4, none⟩ u4).setCell ⟨b, 5, none⟩ u5).setCell ⟨b, 6, none⟩ u6).setCell ⟨b, 7, none⟩ u7).setCell ⟨b, 8, none⟩ u8).setCell ⟨b, 9, none⟩ u9).setCell ⟨b, 10, none⟩ u10).setCell ⟨b, 11, none⟩ u11).setCell ⟨b, 12, none⟩ u12).setCell ⟨b, 13, none⟩ u13) := h14.set1 hl 13 u13 rfl
  exact h15
theorem Kp.two {L : List (Nat × Obj)} {R : List Rw} {w X : World} (h : Kp L R w X) (i j : Nat) {b c : Nat} {o x : Obj} (hi : L[i]? = some (b, o)) (hj : L[j]? = some (c, x)) (hij : i ≠ j) : Kp [(b, o), (c, x)] R w X := by
  have hm : ∀ p ∈ [(b, o), (c, x)], p ∈ L := by
    intro p hp
    rcases List.mem_cons.1 hp with rfl | hp
    · exact List.mem_of_getElem? hi
    · rcases List.mem_cons.1 hp with rfl | hp
      · exact List.mem_of_getElem? hj
      · cases hp
  refine ⟨⟨h.below, fun k b' o' hk => ?_, fun p hp => h.known.own p (hm p hp), ?_⟩, h.own, fun r hr g hg p hp => h.offL r hr g hg p (hm p hp), h.offR⟩
  · match k, hk with
    | 0, hk =>
      simp only [List.getElem?_cons_zero, Option.some.injEq, Prod.mk.injEq] at hk
      obtain ⟨rfl, rfl⟩ := hk
      exact h.at i hi
    | 1, hk =>
      simp only [List.getElem?_cons_succ, List.getElem?_cons_zero, Option.some.injEq, Prod.mk.injEq] at hk
      obtain ⟨rfl, rfl⟩ := hk
      exact h.at j hj
    | k + 2, hk => simp at hk
  · refine List.pairwise_cons.2 ⟨fun p hp => ?_, List.pairwise_cons.2 ⟨fun p hp => (by cases hp), List.Pairwise.nil⟩⟩
    rcases List.mem_cons.1 hp with rfl | hp
    · exact h.known.other hj hi (fun e => hij e.symm)
    · cases hp
theorem Kp.twoAt {L : List (Nat × Obj)} {R : List Rw} {w X Y : World} (h : Kp L R w X) (i j : Nat) {b c : Nat} {o x : Obj} (hi : L[i]? = some (b, o)) (hj : L[j]? = some (c, x)) (hij : i ≠ j) (hY : Y = X) : Kp [(b, o), (c, x)] R w Y := by
  subst hY; exact h.two i j hi hj hij
theorem mi_S {W X : World} {n0 n1 o0 o1 k0 k1 d0 d1 s0 s1 n2 n3 o2 o3 k2 k3 d2 d3 s2 s3 : Int} {q q2 : Bool} (h : Below (W.heap.size + 2) ((W.alloc (.cells #[.int .u8 n0, .int .u8 n1, .int .u8 o0, .int .u8 o1, .int .u8 k0, .int .u8 k1, .int .u8 d0, .int .u8 d1, .int .u8 s0, .int .u8 s1, .bool q] 41)).alloc (.cells #[.int .u8 n2, .int .u8 n3, .int .u8 o2, .int .u8 o3, .int .u8 k2, .int .u8 k3, .int .u8 d2, .int .u8 d3, .int .u8 s2, .int .u8 s3, .bool q2] 41)) X) :
    (X.cell? ⟨W.heap.size, 0, none⟩ = some (.int .u8 n0) ∧ X.cell? ⟨W.heap.size, 1, none⟩ = some (.int .u8 n1) ∧ X.cell? ⟨W.heap.size, 2, none⟩ = some (.int .u8 o0) ∧ X.cell? ⟨W.heap.size, 3, none⟩ = some (.int .u8 o1) ∧ X.cell? ⟨W.heap.size, 4, none⟩ = some (.int .u8 k0) ∧ X.cell? ⟨W.heap.size, 5, none⟩ = some (.int .u8 k1) ∧ X.cell? ⟨W.heap.size, 6, none⟩ = some (.int .u8 d0) ∧ X.cell? ⟨W.heap.size, 7, none⟩ = some (.int .u8 d1) ∧ X.cell? ⟨W.heap.size, 8, none⟩ = some (.int .u8 s0) ∧ X.cell? ⟨W.heap.size, 9, none⟩ = some (.int .u8 s1) ∧ X.cell? ⟨W.heap.size, 10, none⟩ = some (.bool q)) ∧ (X.cell? ⟨W.heap.size + 1, 0, none⟩ = some (.int .u8 n2) ∧ X.cell? ⟨W.heap.size + 1, 1, none⟩ = some (.int .u8 n3) ∧ X.cell? ⟨W.heap.size + 1, 2, none⟩ = some (.int .u8 o2) ∧ X.cell? ⟨W.heap.size + 1, 3, none⟩ = some (.int .u8 o3) ∧ X.cell? ⟨W.heap.size + 1, 4, none⟩ = some (.int .u8 k2) ∧ X.cell? ⟨W.heap.size + 1, 5, none⟩ = some (.int .u8 k3) ∧ X.cell? ⟨W.heap.size + 1, 6, none⟩ = some (.int .u8 d2) ∧ X.cell? ⟨W.heap.size + 1, 7, none⟩ = some (.int .u8 d3) ∧ X.cell? ⟨W.heap.size + 1, 8, none⟩ = some (.int .u8 s2) ∧ X.cell? ⟨W.heap.size + 1, 9, none⟩ = some (.int .u8 s3) ∧ X.cell? ⟨W.heap.size + 1, 10, none⟩ = some (.bool q2)) ∧ Below (W.heap.size + 2) ((W.alloc (.cells #[.int .u8 n0, .int .u8 n1, .int .u8 o0, .int .u8 o1, .int .u8 k0, .int .u8 k1, .int .u8 d0, .int .u8 d1, .int .u8 s0, .int .u8 s1, .bool q] 41)).alloc (.cells #[.int .u8 n2, .int .u8 n3, .int .u8 o2, .int .u8 o3, .int .u8 k2, .int .u8 k3, .int .u8 d2, .int .u8 d3, .int .u8 s2, .int .u8 s3, .bool q2] 41)) X := by
  have K0 := ((Kp.start W).alloc (.cells #[.int .u8 n0, .int .u8 n1, .int .u8 o0, .int .u8 o1, .int .u8 k0, .int .u8 k1, .int .u8 d0, .int .u8 d1, .int .u8 s0, .int .u8 s1, .bool q] 41)).allocAt (W.heap.size + 1) (by simp) (.cells #[.int .u8 n2, .int .u8 n3, .int .u8 o2, .int .u8 o3, .int .u8 k2, .int .u8 k3, .int .u8 d2, .int .u8 d3, .int .u8 s2, .int .u8 s3, .bool q2] 41)
  have e0 := (h.block (W.heap.size + 1) (by omega)).trans (K0.at 0 rfl)
  have e1 := (h.block W.heap.size (by omega)).trans (K0.at 1 rfl)
  exact ⟨⟨cells_at e1 0, cells_at e1 1, cells_at e1 2, cells_at e1 3, cells_at e1 4, cells_at e1 5, cells_at e1 6, cells_at e1 7, cells_at e1 8, cells_at e1 9, cells_at e1 10⟩, ⟨cells_at e0 0, cells_at e0 1, cells_at e0 2, cells_at e0 3, cells_at e0 4, cells_at e0 5, cells_at e0 6, cells_at e0 7, cells_at e0 8, cells_at e0 9, cells_at e0 10⟩, h⟩
set_option maxHeartbeats 16000000 in
set_option maxRecDepth 100000 in
theorem posixBack_cells (n0 n1 o0 o1 k0 k1 d0 d1 s0 s1 : Int) (q : Bool) (hd : Drf.In ⟨n0, n1, o0, o1, k0, k1, d0, d1, s0, s1, q⟩) (n2 n3 o2 o3 k2 k3 d2 d3 s2 s3 : Int) (q2 : Bool) (hk : Drf.In ⟨n2, n3, o2, o3, k2, k3, d2, d3, s2, s3, q2⟩) (W : World) (hE : EnvAt W) :
    Calls Tryz.prog 5 #[.agg #[.int .u8 n0, .int .u8 n1, .int .u8 o0, .int .u8 o1, .int .u8 k0, .int .u8 k1, .int .u8 d0, .int .u8 d1, .int .u8 s0, .int .u8 s1, .bool q], .agg #[.int .u8 n2, .int .u8 n3, .int .u8 o2, .int .u8 o3, .int .u8 k2, .int .u8 k3, .int .u8 d2, .int .u8 d3, .int .u8 s2, .int .u8 s3, .bool q2]] W fun e w' => e = .returned (.bool true) ∧ Below W.heap.size W w' := by
  have CM := Lib.hid (fun w => made_cells n0 n1 o0 o1 k0 k1 d0 d1 s0 s1 q hd w)
  have CN := Lib.hid (fun w => made_cells n2 n3 o2 o3 k2 k3 d2 d3 s2 s3 q2 hk w)
  have hok := made_ok _ hd
  have hsz := made_size ⟨n0, n1, o0, o1, k0, k1, d0, d1, s0, s1, q⟩
  have hsz2 := made_size ⟨n2, n3, o2, o3, k2, k3, d2, d3, s2, s3, q2⟩
  have hinj := made_inj hd hk
  obtain ⟨hbk, hlen⟩ := made_back hd
  have hp1 := made_print hd
  have hp2 := made_print hk
  obtain ⟨P, hP⟩ : ∃ P, Drf.made ⟨n0, n1, o0, o1, k0, k1, d0, d1, s0, s1, q⟩ = P := ⟨_, rfl⟩
  rw [hP] at CM hok hsz hinj hbk hlen hp1
  obtain ⟨Q, hQ⟩ : ∃ P, Drf.made ⟨n2, n3, o2, o3, k2, k3, d2, d3, s2, s3, q2⟩ = P := ⟨_, rfl⟩
  rw [hQ] at CN hsz2 hinj hp2
  have CP := Lib.hid (fun w hE => prt_any P (by omega) (by omega) w hE)
  have CQ := Lib.hid (fun w hE => prt_any Q (by omega) (by omega) w hE)
  rw [hp1] at CP
  rw [hp2] at CQ
  have CC := Lib.hid (check_any P (by omega) (by omega))
  rw [hok] at CC
  have CB := Lib.hid (fun w hE => parse_any (printL P) w hE)
  rw [fin_two, hbk] at CB
  have hz := bs_size (printL P)
  have hz1 : ((bs (printL P)).size : Int) ≤ 74 := by omega
  have hinj2 : bs (printL P) = bs (printL Q) ↔ P = Q := by
    constructor
    · intro h
      apply hinj.1
      rw [← bs_list (printL P), ← bs_list (printL Q), h]
    · intro h; rw [h]
  obtain ⟨S, hS⟩ : ∃ S, bs (printL P) = S := ⟨_, rfl⟩
  obtain ⟨T, hT⟩ : ∃ S, bs (printL Q) = S := ⟨_, rfl⟩
  have HE := Lib.hid hE
  dsimp only at CP CQ CB CC
  rw [hS] at CP CB hz1 hinj2
  rw [hT] at CQ hinj2
  have HI := Lib.hid hinj2
  clear hd hk hP hQ hok hsz hsz2 hinj hbk hlen hp1 hp2 hz hinj2 hS hT hE
  obtain ⟨a, b, c, o, ⟨e1, e2, e3, e4, e5⟩, ⟨g1, g2, g3, g4, g5⟩⟩ := P
  obtain ⟨a', b', c', o', ⟨e1', e2', e3', e4', e5'⟩, ⟨g1', g2', g3', g4', g5'⟩⟩ := Q
  unfold Pos.val at CM CN CP CQ CC CB
  dsimp only at CM CN CP CQ CC CB
  have K0 := Lib.hid (((Kp.start W).alloc (.cells #[.int .u8 n0, .int .u8 n1, .int .u8 o0, .int .u8 o1, .int .u8 k0, .int .u8 k1, .int .u8 d0, .int .u8 d1, .int .u8 s0, .int .u8 s1, .bool q] 41)).allocAt (W.heap.size + 1) (by simp) (.cells #[.int .u8 n2, .int .u8 n3, .int .u8 o2, .int .u8 o3, .int .u8 k2, .int .u8 k3, .int .u8 d2, .int .u8 d3, .int .u8 s2, .int .u8 s3, .bool q2] 41))
  go_enter Tryz.func5, Tryz.ntmps5
  go_upto_region 1 with fail
  go_cut [5, 6] (fun v5 v6 wx => ∃ b5 b6, v5 = .pointer (some ⟨b5, 0, none⟩) ∧ v6 = .pointer (some ⟨b6, 0, none⟩) ∧ Kp [(b6, .cells #[.string a', .int .i64 b', .string c', .int .i64 o', .int .i64 e1', .int .i64 e2', .int .i64 e3', .int .i64 e4', .int .i64 e5', .int .i64 g1', .int .i64 g2', .int .i64 g3', .int .i64 g4', .int .i64 g5'] 25), (b5, .cells #[.string a, .int .i64 b, .string c, .int .i64 o, .int .i64 e1, .int .i64 e2, .int .i64 e3, .int .i64 e4, .int .i64 e5, .int .i64 g1, .int .i64 g2, .int .i64 g3, .int .i64 g4, .int .i64 g5] 25)] [] W wx)
  case first =>
    go_region_held3 (fun w' => (w'.cell? ⟨W.heap.size, 0, none⟩ = some (.int .u8 n0) ∧ w'.cell? ⟨W.heap.size, 1, none⟩ = some (.int .u8 n1) ∧ w'.cell? ⟨W.heap.size, 2, none⟩ = some (.int .u8 o0) ∧ w'.cell? ⟨W.heap.size, 3, none⟩ = some (.int .u8 o1) ∧ w'.cell? ⟨W.heap.size, 4, none⟩ = some (.int .u8 k0) ∧ w'.cell? ⟨W.heap.size, 5, none⟩ = some (.int .u8 k1) ∧ w'.cell? ⟨W.heap.size, 6, none⟩ = some (.int .u8 d0) ∧ w'.cell? ⟨W.heap.size, 7, none⟩ = some (.int .u8 d1) ∧ w'.cell? ⟨W.heap.size, 8, none⟩ = some (.int .u8 s0) ∧ w'.cell? ⟨W.heap.size, 9, none⟩ = some (.int .u8 s1) ∧ w'.cell? ⟨W.heap.size, 10, none⟩ = some (.bool q)) ∧ (w'.cell? ⟨W.heap.size + 1, 0, none⟩ = some (.int .u8 n2) ∧ w'.cell? ⟨W.heap.size + 1, 1, none⟩ = some (.int .u8 n3) ∧ w'.cell? ⟨W.heap.size + 1, 2, none⟩ = some (.int .u8 o2) ∧ w'.cell? ⟨W.heap.size + 1, 3, none⟩ = some (.int .u8 o3) ∧ w'.cell? ⟨W.heap.size + 1, 4, none⟩ = some (.int .u8 k2) ∧ w'.cell? ⟨W.heap.size + 1, 5, none⟩ = some (.int .u8 k3) ∧ w'.cell? ⟨W.heap.size + 1, 6, none⟩ = some (.int .u8 d2) ∧ w'.cell? ⟨W.heap.size + 1, 7, none⟩ = some (.int .u8 d3) ∧ w'.cell? ⟨W.heap.size + 1, 8, none⟩ = some (.int .u8 s2) ∧ w'.cell? ⟨W.heap.size + 1, 9, none⟩ = some (.int .u8 s3) ∧ w'.cell? ⟨W.heap.size + 1, 10, none⟩ = some (.bool q2)) ∧ Below (W.heap.size + 2) ((W.alloc (.cells #[.int .u8 n0, .int .u8 n1, .int .u8 o0, .int .u8 o1, .int .u8 k0, .int .u8 k1, .int .u8 d0, .int .u8 d1, .int .u8 s0, .int .u8 s1, .bool q] 41)).alloc (.cells #[.int .u8 n2, .int .u8 n3, .int .u8 o2, .int .u8 o3, .int .u8 k2, .int .u8 k3, .int .u8 d2, .int .u8 d3, .int .u8 s2, .int .u8 s3, .bool q2] 41)) w')
      ((refine mi_S ?_; repeat (first | with_reducible exact HX2B.out | with_reducible exact HX1B.out | with_reducible exact Below.refl _ _ | with_reducible refine Below.drew ?_ | with_reducible refine Below.alloc ?_ (by first | omega | (simp; done) | (simp; omega)) _ | with_reducible refine Below.setCell ?_ (by dsimp only; omega) _)))
      (first
       | (go_at_call 19; (with_reducible refine (CM.out _).mono ?_); rintro e X ⟨rfl, hb⟩; (first | (have HX1a := Lib.hid (K0.out.call hb rfl rfl rfl rfl); have HX1B := Lib.hid (mi_below (L := []) HX1a.out); have HX1Z : W.heap.size + 2 ≤ X.heap.size := (by have := HX1B.out.size; simp at this; omega)) | (have HX1b := Lib.hid ((K0.out.allocAt (W.heap.size + 1 + 1) (by simp) (.cells #[.string ⟨#[]⟩, .int .i64 0, .string ⟨#[]⟩, .int .i64 0, .int .i64 0, .int .i64 0, .int .i64 0, .int .i64 0, .int .i64 0, .int .i64 0, .int .i64 0, .int .i64 0, .int .i64 0, .int .i64 0] 25)).call hb rfl rfl rfl rfl); have HX1B := Lib.hid (mi_below (L := []) HX1b.out.drop); have HX1Z : W.heap.size + 2 ≤ X.heap.size := (by have := HX1B.out.size; simp at this; omega); obtain ⟨x0t0, x0t1, x0t2, x0t3, x0t4, x0t5, x0t6, x0t7, x0t8, x0t9, x0t10, x0t11, x0t12, x0t13⟩ := row14 (HX1b.out.at 0 rfl); obtain ⟨x0u0, x0u1, x0u2, x0u3, x0u4, x0u5, x0u6, x0u7, x0u8, x0u9, x0u10, x0u11, x0u12, x0u13⟩ := free14 (HX1b.out.at 0 rfl); have x0z := HX1b.out.lt 0 rfl; have x0n := Nat.ne_of_lt x0z) | (have HX1c := Lib.hid (((K0.out.allocAt (W.heap.size + 1 + 1) (by simp) (.cells #[.string ⟨#[]⟩, .int .i64 0, .string ⟨#[]⟩, .int .i64 0, .int .i64 0, .int .i64 0, .int .i64 0, .int .i64 0, .int .i64 0, .int .i64 0, .int .i64 0, .int .i64 0, .int .i64 0, .int .i64 0] 25)).allocAt (W.heap.size + 1 + 1 + 1) (by simp) (.cells #[.string ⟨#[]⟩, .int .i64 0, .string ⟨#[]⟩, .int .i64 0, .int .i64 0, .int .i64 0, .int .i64 0, .int .i64 0, .int .i64 0, .int .i64 0, .int .i64 0, .int .i64 0, .int .i64 0, .int .i64 0] 25)).call hb rfl rfl rfl rfl); have HX1B := Lib.hid (mi_below (L := []) HX1c.out.drop.drop); have HX1Z : W.heap.size + 2 ≤ X.heap.size := (by have := HX1B.out.size; simp at this; omega); obtain ⟨x0t0, x0t1, x0t2, x0t3, x0t4, x0t5, x0t6, x0t7, x0t8, x0t9, x0t10, x0t11, x0t12, x0t13⟩ := row14 (HX1c.out.at 0 rfl); obtain ⟨x0u0, x0u1, x0u2, x0u3, x0u4, x0u5, x0u6, x0u7, x0u8, x0u9, x0u10, x0u11, x0u12, x0u13⟩ := free14 (HX1c.out.at 0 rfl); have x0z := HX1c.out.lt 0 rfl; have x0n := Nat.ne_of_lt x0z; obtain ⟨x1t0, x1t1, x1t2, x1t3, x1t4, x1t5, x1t6, x1t7, x1t8, x1t9, x1t10, x1t11, x1t12, x1t13⟩ := row14 (HX1c.out.at 1 rfl); obtain ⟨x1u0, x1u1, x1u2, x1u3, x1u4, x1u5, x1u6, x1u7, x1u8, x1u9, x1u10, x1u11, x1u12, x1u13⟩ := free14 (HX1c.out.at 1 rfl); have x1z := HX1c.out.lt 1 rfl; have x1n := Nat.ne_of_lt x1z)); clear hb)
       | (go_at_call 19; (with_reducible refine (CN.out _).mono ?_); rintro e X ⟨rfl, hb⟩; (first | (have HA2 := Lib.hid (HX1a.out.call hb rfl rfl rfl rfl); have HX2B := Lib.hid (mi_below (L := []) HA2.out); have HX2Z : W.heap.size + 2 ≤ X.heap.size := (by have := HX2B.out.size; simp at this; omega)) | (have HB2 := Lib.hid ((HX1a.out.alloc (.cells #[.string ⟨#[]⟩, .int .i64 0, .string ⟨#[]⟩, .int .i64 0, .int .i64 0, .int .i64 0, .int .i64 0, .int .i64 0, .int .i64 0, .int .i64 0, .int .i64 0, .int .i64 0, .int .i64 0, .int .i64 0] 25)).call hb rfl rfl rfl rfl); have HX2B := Lib.hid (mi_below (L := []) HB2.out.drop); have HX2Z : W.heap.size + 2 ≤ X.heap.size := (by have := HX2B.out.size; simp at this; omega); obtain ⟨x0t0, x0t1, x0t2, x0t3, x0t4, x0t5, x0t6, x0t7, x0t8, x0t9, x0t10, x0t11, x0t12, x0t13⟩ := row14 (HB2.out.at 0 rfl); obtain ⟨x0u0, x0u1, x0u2, x0u3, x0u4, x0u5, x0u6, x0u7, x0u8, x0u9, x0u10, x0u11, x0u12, x0u13⟩ := free14 (HB2.out.at 0 rfl); have x0z := HB2.out.lt 0 rfl; have x0n := Nat.ne_of_lt x0z) | (have HC2 := Lib.hid (((HX1a.out.alloc (.cells #[.string ⟨#[]⟩, .int .i64 0, .string ⟨#[]⟩, .int .i64 0, .int .i64 0, .int .i64 0, .int .i64 0, .int .i64 0, .int .i64 0, .int .i64 0, .int .i64 0, .int .i64 0, .int .i64 0, .int .i64 0] 25)).allocAt _ (hs_alloc _ _) (.cells #[.string ⟨#[]⟩, .int .i64 0, .string ⟨#[]⟩, .int .i64 0, .int .i64 0, .int .i64 0, .int .i64 0, .int .i64 0, .int .i64 0, .int .i64 0, .int .i64 0, .int .i64 0, .int .i64 0, .int .i64 0] 25)).call hb rfl rfl rfl rfl); have HX2B := Lib.hid (mi_below (L := []) HC2.out.drop.drop); have HX2Z : W.heap.size + 2 ≤ X.heap.size := (by have := HX2B.out.size; simp at this; omega); obtain ⟨x0t0, x0t1, x0t2, x0t3, x0t4, x0t5, x0t6, x0t7, x0t8, x0t9, x0t10, x0t11, x0t12, x0t13⟩ := row14 (HC2.out.at 0 rfl); obtain ⟨x0u0, x0u1, x0u2, x0u3, x0u4, x0u5, x0u6, x0u7, x0u8, x0u9, x0u10, x0u11, x0u12, x0u13⟩ := free14 (HC2.out.at 0 rfl); have x0z := HC2.out.lt 0 rfl; have x0n := Nat.ne_of_lt x0z; obtain ⟨x1t0, x1t1, x1t2, x1t3, x1t4, x1t5, x1t6, x1t7, x1t8, x1t9, x1t10, x1t11, x1t12, x1t13⟩ := row14 (HC2.out.at 1 rfl); obtain ⟨x1u0, x1u1, x1u2, x1u3, x1u4, x1u5, x1u6, x1u7, x1u8, x1u9, x1u10, x1u11, x1u12, x1u13⟩ := free14 (HC2.out.at 1 rfl); have x1z := HC2.out.lt 1 rfl; have x1n := Nat.ne_of_lt x1z) | (have HB2 := Lib.hid (HX1b.out.call hb rfl rfl rfl rfl); have HX2B := Lib.hid (mi_below (L := []) HB2.out.drop); have HX2Z : W.heap.size + 2 ≤ X.heap.size := (by have := HX2B.out.size; simp at this; omega); obtain ⟨x0t0, x0t1, x0t2, x0t3, x0t4, x0t5, x0t6, x0t7, x0t8, x0t9, x0t10, x0t11, x0t12, x0t13⟩ := row14 (HB2.out.at 0 rfl); obtain ⟨x0u0, x0u1, x0u2, x0u3, x0u4, x0u5, x0u6, x0u7, x0u8, x0u9, x0u10, x0u11, x0u12, x0u13⟩ := free14 (HB2.out.at 0 rfl); have x0z := HB2.out.lt 0 rfl; have x0n := Nat.ne_of_lt x0z) | (have HC2 := Lib.hid ((HX1b.out.alloc (.cells #[.string ⟨#[]⟩, .int .i64 0, .string ⟨#[]⟩, .int .i64 0, .int .i64 0, .int .i64 0, .int .i64 0, .int .i64 0, .int .i64 0, .int .i64 0, .int .i64 0, .int .i64 0, .int .i64 0, .int .i64 0] 25)).call hb rfl rfl rfl rfl); have HX2B := Lib.hid (mi_below (L := []) HC2.out.drop.drop); have HX2Z : W.heap.size + 2 ≤ X.heap.size := (by have := HX2B.out.size; simp at this; omega); obtain ⟨x0t0, x0t1, x0t2, x0t3, x0t4, x0t5, x0t6, x0t7, x0t8, x0t9, x0t10, x0t11, x0t12, x0t13⟩ := row14 (HC2.out.at 0 rfl); obtain ⟨x0u0, x0u1, x0u2, x0u3, x0u4, x0u5, x0u6, x0u7, x0u8, x0u9, x0u10, x0u11, x0u12, x0u13⟩ := free14 (HC2.out.at 0 rfl); have x0z := HC2.out.lt 0 rfl; have x0n := Nat.ne_of_lt x0z; obtain ⟨x1t0, x1t1, x1t2, x1t3, x1t4, x1t5, x1t6, x1t7, x1t8, x1t9, x1t10, x1t11, x1t12, x1t13⟩ := row14 (HC2.out.at 1 rfl); obtain ⟨x1u0, x1u1, x1u2, x1u3, x1u4, x1u5, x1u6, x1u7, x1u8, x1u9, x1u10, x1u11, x1u12, x1u13⟩ := free14 (HC2.out.at 1 rfl); have x1z := HC2.out.lt 1 rfl; have x1n := Nat.ne_of_lt x1z) | (have HC2 := Lib.hid (HX1c.out.call hb rfl rfl rfl rfl); have HX2B := Lib.hid (mi_below (L := []) HC2.out.drop.drop); have HX2Z : W.heap.size + 2 ≤ X.heap.size := (by have := HX2B.out.size; simp at this; omega); obtain ⟨x0t0, x0t1, x0t2, x0t3, x0t4, x0t5, x0t6, x0t7, x0t8, x0t9, x0t10, x0t11, x0t12, x0t13⟩ := row14 (HC2.out.at 0 rfl); obtain ⟨x0u0, x0u1, x0u2, x0u3, x0u4, x0u5, x0u6, x0u7, x0u8, x0u9, x0u10, x0u11, x0u12, x0u13⟩ := free14 (HC2.out.at 0 rfl); have x0z := HC2.out.lt 0 rfl; have x0n := Nat.ne_of_lt x0z; obtain ⟨x1t0, x1t1, x1t2, x1t3, x1t4, x1t5, x1t6, x1t7, x1t8, x1t9, x1t10, x1t11, x1t12, x1t13⟩ := row14 (HC2.out.at 1 rfl); obtain ⟨x1u0, x1u1, x1u2, x1u3, x1u4, x1u5, x1u6, x1u7, x1u8, x1u9, x1u10, x1u11, x1u12, x1u13⟩ := free14 (HC2.out.at 1 rfl); have x1z := HC2.out.lt 1 rfl; have x1n := Nat.ne_of_lt x1z)); clear hb))
    all_goals
      go_wp2_with fail
      go_meet
      first
        | exact ⟨_, _, rfl, rfl, ((HA2.out.alloc _).allocAt _ (hs_alloc _ _) _).twoAt 0 1 rfl rfl (by decide) (by with_reducible rfl)⟩
        | exact ⟨_, _, rfl, rfl, ((HA2.out.alloc _).allocAt _ (hs_alloc _ _) _).twoAt 1 0 rfl rfl (by decide) (by with_reducible rfl)⟩
        | exact ⟨_, _, rfl, rfl, ((HB2.out.set14 0 rfl _ _ _ _ _ _ _ _ _ _ _ _ _ _).allocAt _ (by simp) _).twoAt 0 1 rfl rfl (by decide) (by with_reducible rfl)⟩
        | exact ⟨_, _, rfl, rfl, ((HB2.out.set14 0 rfl _ _ _ _ _ _ _ _ _ _ _ _ _ _).allocAt _ (by simp) _).twoAt 1 0 rfl rfl (by decide) (by with_reducible rfl)⟩
        | exact ⟨_, _, rfl, rfl, ((HC2.out.set14 0 rfl _ _ _ _ _ _ _ _ _ _ _ _ _ _).set14 1 rfl _ _ _ _ _ _ _ _ _ _ _ _ _ _).twoAt 1 0 rfl rfl (by decide) (by with_reducible rfl)⟩
        | exact ⟨_, _, rfl, rfl, ((HC2.out.set14 1 rfl _ _ _ _ _ _ _ _ _ _ _ _ _ _).set14 0 rfl _ _ _ _ _ _ _ _ _ _ _ _ _ _).twoAt 0 1 rfl rfl (by decide) (by with_reducible rfl)⟩
  case rest =>
    as_aux_lemma =>
      obtain ⟨b5, b6, rfl, rfl, hK⟩ := hcut
      have K1 := Lib.hid hK
      clear hK K0
      obtain ⟨p0, p1, p2, p3, p4, p5, p6, p7, p8, p9, p10, p11, p12, p13⟩ := row14 (K1.out.at 1 rfl)
      go_wp2_with fail
      refine (CP.out _ (HE.out.keep K1.out.below)).mono ?_
      rintro _ V1 ⟨rfl, hb⟩
      have K2 := Lib.hid (K1.out.keep hb)
      clear hb p0 p1 p2 p3 p4 p5 p6 p7 p8 p9 p10 p11 p12 p13
      obtain ⟨p0, p1, p2, p3, p4, p5, p6, p7, p8, p9, p10, p11, p12, p13⟩ := row14 (K2.out.at 0 rfl)
      go_wp2_with fail
      refine (CQ.out _ (HE.out.keep K2.out.below)).mono ?_
      rintro _ V2 ⟨rfl, hb⟩
      have K3 := Lib.hid (K2.out.keep hb)
      clear hb p0 p1 p2 p3 p4 p5 p6 p7 p8 p9 p10 p11 p12 p13
      go_wp2_with fail
      refine (CB.out _ (HE.out.keep K3.out.below)).mono ?_
      rintro _ V3 ⟨rfl, hb⟩
      have K4 := Lib.hid ((K3.out.keep hb).alloc (.cells #[.string a, .int .i64 b, .string c, .int .i64 o, .int .i64 e1, .int .i64 e2, .int .i64 e3, .int .i64 e4, .int .i64 e5, .int .i64 g1, .int .i64 g2, .int .i64 g3, .int .i64 g4, .int .i64 g5] 25))
      have K4a := Lib.hid (K3.out.keep hb)
      clear hb
      obtain ⟨p0, p1, p2, p3, p4, p5, p6, p7, p8, p9, p10, p11, p12, p13⟩ := row14 (K4a.out.at 1 rfl)
      have z0 := K4a.out.lt 1 rfl
      go_wp2_with fail
      refine (CC.out _).mono ?_
      rintro _ V4 ⟨rfl, hb⟩
      have K5 := Lib.hid (K4.out.keep hb)
      clear hb p0 p1 p2 p3 p4 p5 p6 p7 p8 p9 p10 p11 p12 p13 z0
      obtain ⟨p0, p1, p2, p3, p4, p5, p6, p7, p8, p9, p10, p11, p12, p13⟩ := row14 (K5.out.at 0 rfl)
      obtain ⟨r0, r1, r2, r3, r4, r5, r6, r7, r8, r9, r10, r11, r12, r13⟩ := row14 (K5.out.at 1 rfl)
      obtain ⟨t0, t1, t2, t3, t4, t5, t6, t7, t8, t9, t10, t11, t12, t13⟩ := row14 (K5.out.at 2 rfl)
      by_cases hPQ : (⟨a, b, c, o, ⟨e1, e2, e3, e4, e5⟩, ⟨g1, g2, g3, g4, g5⟩⟩ : Pos) = ⟨a', b', c', o', ⟨e1', e2', e3', e4', e5'⟩, ⟨g1', g2', g3', g4', g5'⟩⟩
      · have hST := HI.out.2 hPQ
        clear HI CM CN CP CQ CB CC
        simp only [Pos.mk.injEq, Dt.mk.injEq] at hPQ
        obtain ⟨rfl, rfl, rfl, rfl, ⟨rfl, rfl, rfl, rfl, rfl⟩, rfl, rfl, rfl, rfl, rfl⟩ := hPQ
        subst hST
        go_wp2_with fail
        refine (works_any _ (HE.out.keep K5.out.below)).mono ?_
        rintro _ V5 ⟨rfl, hb⟩
        have K6 := Lib.hid (K5.out.keep hb)
        clear hb
        go_wp2_with fail
        go_ret
        exact ⟨rfl, K6.out.below⟩
      · have hST : ¬ S.toList = T.toList := fun h => hPQ (HI.out.1 (by
          apply ByteArray.ext
          apply Array.ext'
          rw [← ByteArray.toList_eq, ← ByteArray.toList_eq, h]))
        clear HI CM CN CP CQ CB CC
        have hq : ∀ X : World, (if a.toList = a'.toList then (if b = b' then (if c.toList = c'.toList then (if o = o' then (if e1 = e1' then (if e2 = e2' then (if e3 = e3' then (if e4 = e4' then (if e5 = e5' then (if g1 = g1' then (if g2 = g2' then (if g3 = g3' then (if g4 = g4' then (if g5 = g5' then Result.ok (Next.value (Value.bool true)) X else Result.ok (Next.value (Value.bool false)) X) else Result.ok (Next.value (Value.bool false)) X) else Result.ok (Next.value (Value.bool false)) X) else Result.ok (Next.value (Value.bool false)) X) else Result.ok (Next.value (Value.bool false)) X) else Result.ok (Next.value (Value.bool false)) X) else Result.ok (Next.value (Value.bool false)) X) else Result.ok (Next.value (Value.bool false)) X) else Result.ok (Next.value (Value.bool false)) X) else Result.ok (Next.value (Value.bool false)) X) else Result.ok (Next.value (Value.bool false)) X) else Result.ok (Next.value (Value.bool false)) X) else Result.ok (Next.value (Value.bool false)) X) else Result.ok (Next.value (Value.bool false)) X) = Result.ok (Next.value (Value.bool false)) X := by
          intro X
          by_cases h1 : a.toList = a'.toList
          case neg => rw [if_neg h1]
          rw [if_pos h1]
          by_cases h2 : b = b'
          case neg => rw [if_neg h2]
          rw [if_pos h2]
          by_cases h3 : c.toList = c'.toList
          case neg => rw [if_neg h3]
          rw [if_pos h3]
          by_cases h4 : o = o'
          case neg => rw [if_neg h4]
          rw [if_pos h4]
          by_cases h5 : e1 = e1'
          case neg => rw [if_neg h5]
          rw [if_pos h5]
          by_cases h6 : e2 = e2'
          case neg => rw [if_neg h6]
          rw [if_pos h6]
          by_cases h7 : e3 = e3'
          case neg => rw [if_neg h7]
          rw [if_pos h7]
          by_cases h8 : e4 = e4'
          case neg => rw [if_neg h8]
          rw [if_pos h8]
          by_cases h9 : e5 = e5'
          case neg => rw [if_neg h9]
          rw [if_pos h9]
          by_cases h10 : g1 = g1'
          case neg => rw [if_neg h10]
          rw [if_pos h10]
          by_cases h11 : g2 = g2'
          case neg => rw [if_neg h11]
          rw [if_pos h11]
          by_cases h12 : g3 = g3'
          case neg => rw [if_neg h12]
          rw [if_pos h12]
          by_cases h13 : g4 = g4'
          case neg => rw [if_neg h13]
          rw [if_pos h13]
          by_cases h14 : g5 = g5'
          case neg => rw [if_neg h14]
          rw [if_pos h14]
          exact absurd (pos_eq h1 h2 h3 h4 h5 h6 h7 h8 h9 h10 h11 h12 h13 h14) hPQ
        clear hPQ
        have hS2 : (S.toList == T.toList) = false := beq_eq_false_iff_ne.2 hST
        go_wp2_with fail
        refine (works_any _ (HE.out.keep K5.out.below)).mono ?_
        rintro _ V5 ⟨rfl, hb⟩
        have K6 := Lib.hid (K5.out.keep hb)
        clear hb
        go_wp2_with fail
        go_ret
        exact ⟨rfl, K6.out.below⟩
end Go.Proofs.YtgllbagmmpicaaaGreatDoor.Px
