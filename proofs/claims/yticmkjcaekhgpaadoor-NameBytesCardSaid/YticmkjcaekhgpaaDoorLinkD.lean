import Derived.Test.YticmkjcaekhgpaaDoorLinkC
namespace Go.Proofs.YticmkjcaekhgpaaDoor
open Go.RowKit

theorem link25_is (S : List ByteArray) (t n : ByteArray) (er : Int) (ht : lkT S = t) (hn : lkN S = n) (he : namesE zoneOk S 2 = er) (len : Nat) (hlen : len = S.length) (hl : S.length ≤ 1000) (a : Option Addr) (c : Nat) (W : World) (hS : StrsAt W a S) :
    Calls Tryd.prog 25 #[.slice a len c] W fun e w' => e = .returned (.tuple #[.agg #[.string t, .string n], .int .i64 er]) ∧ Below W.heap.size W w' := by
  subst ht hn he hlen
  exact link25 S a c W hS (by unfold maxLen; omega)
theorem shift27_is (S : List ByteArray) (t : ByteArray) (er : Int) (ht : shV S = t) (he : namesE setOk S 1 = er) (len : Nat) (hlen : len = S.length) (hl : S.length ≤ 1000) (a : Option Addr) (c : Nat) (W : World) (hS : StrsAt W a S) :
    Calls Tryd.prog 27 #[.slice a len c] W fun e w' => e = .returned (.tuple #[.string t, .int .i64 er]) ∧ Below W.heap.size W w' := by
  subst ht he hlen
  exact shift27 S a c W hS (by unfold maxLen; omega)

theorem strs_lit {W : World} {b : Nat} {cs : Array Value} (S : List ByteArray) (h : W.heap[b]? = some (.cells cs 9)) (hcs : cs = (S.map Value.string).toArray) (hs : S.all (fun s => decide (s.size ≤ 1000)) = true) : StrsAt W (some ⟨b, 0, none⟩) S := by
  right
  refine ⟨b, 0, rfl, fun i hi => ?_⟩
  have hm := List.all_eq_true.1 hs S[i] (List.getElem_mem hi)
  rw [getD_lt hi]
  refine ⟨?_, by unfold maxLen; simp at hm; omega⟩
  subst hcs
  simp [World.cell?, h, hi]
/-- the world behind the rows of the first table -/
def tabW (w : World) : World := ((((((w.alloc (.cells #[.string ⟨#[69, 117, 114, 111, 112, 101, 47, 68, 117, 98, 108, 105, 110]⟩, .string ⟨#[69, 105, 114, 101]⟩] 9)).alloc (.cells #[.string ⟨#[97]⟩] 9)).alloc (.cells #[.string ⟨#[97]⟩, .string ⟨#[98]⟩, .string ⟨#[99]⟩] 9)).alloc (.cells #[.string ⟨#[97]⟩, .string ⟨#[45, 98]⟩] 9)).alloc (.cells #[.string ⟨#[]⟩, .string ⟨#[98]⟩] 9)).alloc (.cells #[.slice (some ⟨w.heap.size, 0, none⟩) 2 2, .string ⟨#[69, 117, 114, 111, 112, 101, 47, 68, 117, 98, 108, 105, 110]⟩, .string ⟨#[69, 105, 114, 101]⟩, .int .i64 0, .slice (some ⟨w.heap.size + 1, 0, none⟩) 1 1, .string ⟨#[]⟩, .string ⟨#[]⟩, .int .i64 5, .slice (some ⟨w.heap.size + 1 + 1, 0, none⟩) 3 3, .string ⟨#[]⟩, .string ⟨#[]⟩, .int .i64 5, .slice (some ⟨w.heap.size + 1 + 1 + 1, 0, none⟩) 2 2, .string ⟨#[]⟩, .string ⟨#[]⟩, .int .i64 9, .slice (some ⟨w.heap.size + 1 + 1 + 1 + 1, 0, none⟩) 2 2, .string ⟨#[]⟩, .string ⟨#[]⟩, .int .i64 9] 60))
theorem tabW_size (w : World) : (tabW w).heap.size = w.heap.size + 6 := by simp [tabW]
theorem tabW_below (w : World) : Below w.heap.size w (tabW w) := (((((((Below.refl _ w).alloc (Nat.le_refl _) _).alloc (by simp) _).alloc (by simp; omega) _).alloc (by simp; omega) _).alloc (by simp; omega) _).alloc (by simp; omega) _)
theorem tabW_strs0 (w : World) : (tabW w).heap[w.heap.size]? = some (.cells #[.string ⟨#[69, 117, 114, 111, 112, 101, 47, 68, 117, 98, 108, 105, 110]⟩, .string ⟨#[69, 105, 114, 101]⟩] 9) := by
  unfold tabW
  rw [Below.heap_alloc _ _ _ (by simp; try omega), Below.heap_alloc _ _ _ (by simp; try omega), Below.heap_alloc _ _ _ (by simp; try omega), Below.heap_alloc _ _ _ (by simp; try omega), Below.heap_alloc _ _ _ (by simp; try omega), heap_alloc_at (by simp)]
theorem tabW_strs1 (w : World) : (tabW w).heap[w.heap.size + 1]? = some (.cells #[.string ⟨#[97]⟩] 9) := by
  unfold tabW
  rw [Below.heap_alloc _ _ _ (by simp; try omega), Below.heap_alloc _ _ _ (by simp; try omega), Below.heap_alloc _ _ _ (by simp; try omega), Below.heap_alloc _ _ _ (by simp; try omega), heap_alloc_at (by simp)]
theorem tabW_strs2 (w : World) : (tabW w).heap[w.heap.size + 1 + 1]? = some (.cells #[.string ⟨#[97]⟩, .string ⟨#[98]⟩, .string ⟨#[99]⟩] 9) := by
  unfold tabW
  rw [Below.heap_alloc _ _ _ (by simp; try omega), Below.heap_alloc _ _ _ (by simp; try omega), Below.heap_alloc _ _ _ (by simp; try omega), heap_alloc_at (by simp)]
theorem tabW_strs3 (w : World) : (tabW w).heap[w.heap.size + 1 + 1 + 1]? = some (.cells #[.string ⟨#[97]⟩, .string ⟨#[45, 98]⟩] 9) := by
  unfold tabW
  rw [Below.heap_alloc _ _ _ (by simp; try omega), Below.heap_alloc _ _ _ (by simp; try omega), heap_alloc_at (by simp)]
theorem tabW_strs4 (w : World) : (tabW w).heap[w.heap.size + 1 + 1 + 1 + 1]? = some (.cells #[.string ⟨#[]⟩, .string ⟨#[98]⟩] 9) := by
  unfold tabW
  rw [Below.heap_alloc _ _ _ (by simp; try omega), heap_alloc_at (by simp)]
theorem tabW_c0 (w : World) : (tabW w).cell? ⟨w.heap.size + 1 + 1 + 1 + 1 + 1, 0, none⟩ = some (.slice (some ⟨w.heap.size, 0, none⟩) 2 2) := (World.cell?_alloc_at _ _ _ _ (by simp)).trans rfl
theorem tabW_c1 (w : World) : (tabW w).cell? ⟨w.heap.size + 1 + 1 + 1 + 1 + 1, 1, none⟩ = some (.string ⟨#[69, 117, 114, 111, 112, 101, 47, 68, 117, 98, 108, 105, 110]⟩) := (World.cell?_alloc_at _ _ _ _ (by simp)).trans rfl
theorem tabW_c2 (w : World) : (tabW w).cell? ⟨w.heap.size + 1 + 1 + 1 + 1 + 1, 2, none⟩ = some (.string ⟨#[69, 105, 114, 101]⟩) := (World.cell?_alloc_at _ _ _ _ (by simp)).trans rfl
theorem tabW_c3 (w : World) : (tabW w).cell? ⟨w.heap.size + 1 + 1 + 1 + 1 + 1, 3, none⟩ = some (.int .i64 0) := (World.cell?_alloc_at _ _ _ _ (by simp)).trans rfl
theorem tabW_c4 (w : World) : (tabW w).cell? ⟨w.heap.size + 1 + 1 + 1 + 1 + 1, 4, none⟩ = some (.slice (some ⟨w.heap.size + 1, 0, none⟩) 1 1) := (World.cell?_alloc_at _ _ _ _ (by simp)).trans rfl
theorem tabW_c5 (w : World) : (tabW w).cell? ⟨w.heap.size + 1 + 1 + 1 + 1 + 1, 5, none⟩ = some (.string ⟨#[]⟩) := (World.cell?_alloc_at _ _ _ _ (by simp)).trans rfl
theorem tabW_c6 (w : World) : (tabW w).cell? ⟨w.heap.size + 1 + 1 + 1 + 1 + 1, 6, none⟩ = some (.string ⟨#[]⟩) := (World.cell?_alloc_at _ _ _ _ (by simp)).trans rfl
theorem tabW_c7 (w : World) : (tabW w).cell? ⟨w.heap.size + 1 + 1 + 1 + 1 + 1, 7, none⟩ = some (.int .i64 5) := (World.cell?_alloc_at _ _ _ _ (by simp)).trans rfl
theorem tabW_c8 (w : World) : (tabW w).cell? ⟨w.heap.size + 1 + 1 + 1 + 1 + 1, 8, none⟩ = some (.slice (some ⟨w.heap.size + 1 + 1, 0, none⟩) 3 3) := (World.cell?_alloc_at _ _ _ _ (by simp)).trans rfl
theorem tabW_c9 (w : World) : (tabW w).cell? ⟨w.heap.size + 1 + 1 + 1 + 1 + 1, 9, none⟩ = some (.string ⟨#[]⟩) := (World.cell?_alloc_at _ _ _ _ (by simp)).trans rfl
theorem tabW_c10 (w : World) : (tabW w).cell? ⟨w.heap.size + 1 + 1 + 1 + 1 + 1, 10, none⟩ = some (.string ⟨#[]⟩) := (World.cell?_alloc_at _ _ _ _ (by simp)).trans rfl
theorem tabW_c11 (w : World) : (tabW w).cell? ⟨w.heap.size + 1 + 1 + 1 + 1 + 1, 11, none⟩ = some (.int .i64 5) := (World.cell?_alloc_at _ _ _ _ (by simp)).trans rfl
theorem tabW_c12 (w : World) : (tabW w).cell? ⟨w.heap.size + 1 + 1 + 1 + 1 + 1, 12, none⟩ = some (.slice (some ⟨w.heap.size + 1 + 1 + 1, 0, none⟩) 2 2) := (World.cell?_alloc_at _ _ _ _ (by simp)).trans rfl
theorem tabW_c13 (w : World) : (tabW w).cell? ⟨w.heap.size + 1 + 1 + 1 + 1 + 1, 13, none⟩ = some (.string ⟨#[]⟩) := (World.cell?_alloc_at _ _ _ _ (by simp)).trans rfl
theorem tabW_c14 (w : World) : (tabW w).cell? ⟨w.heap.size + 1 + 1 + 1 + 1 + 1, 14, none⟩ = some (.string ⟨#[]⟩) := (World.cell?_alloc_at _ _ _ _ (by simp)).trans rfl
theorem tabW_c15 (w : World) : (tabW w).cell? ⟨w.heap.size + 1 + 1 + 1 + 1 + 1, 15, none⟩ = some (.int .i64 9) := (World.cell?_alloc_at _ _ _ _ (by simp)).trans rfl
theorem tabW_c16 (w : World) : (tabW w).cell? ⟨w.heap.size + 1 + 1 + 1 + 1 + 1, 16, none⟩ = some (.slice (some ⟨w.heap.size + 1 + 1 + 1 + 1, 0, none⟩) 2 2) := (World.cell?_alloc_at _ _ _ _ (by simp)).trans rfl
theorem tabW_c17 (w : World) : (tabW w).cell? ⟨w.heap.size + 1 + 1 + 1 + 1 + 1, 17, none⟩ = some (.string ⟨#[]⟩) := (World.cell?_alloc_at _ _ _ _ (by simp)).trans rfl
theorem tabW_c18 (w : World) : (tabW w).cell? ⟨w.heap.size + 1 + 1 + 1 + 1 + 1, 18, none⟩ = some (.string ⟨#[]⟩) := (World.cell?_alloc_at _ _ _ _ (by simp)).trans rfl
theorem tabW_c19 (w : World) : (tabW w).cell? ⟨w.heap.size + 1 + 1 + 1 + 1 + 1, 19, none⟩ = some (.int .i64 9) := (World.cell?_alloc_at _ _ _ _ (by simp)).trans rfl

set_option maxHeartbeats 1000000 in
theorem round12_0 (w wr : World) (hB : Below (w.heap.size + 6) (tabW w) wr) (V0 : World) (hV0 : wr.alloc (.cells #[.slice (some ⟨w.heap.size, 0, none⟩) 2 2, .string ⟨#[69, 117, 114, 111, 112, 101, 47, 68, 117, 98, 108, 105, 110]⟩, .string ⟨#[69, 105, 114, 101]⟩, .int .i64 0] 60) = V0) :
    Calls Tryd.prog 25 #[.slice (some ⟨w.heap.size, 0, none⟩) 2 2] V0 fun e V => e = .returned (.tuple #[.agg #[.string ⟨#[69, 117, 114, 111, 112, 101, 47, 68, 117, 98, 108, 105, 110]⟩, .string ⟨#[69, 105, 114, 101]⟩], .int .i64 0]) ∧ Below V0.heap.size V0 V :=
  link25_is [⟨#[69, 117, 114, 111, 112, 101, 47, 68, 117, 98, 108, 105, 110]⟩, ⟨#[69, 105, 114, 101]⟩] ⟨#[69, 117, 114, 111, 112, 101, 47, 68, 117, 98, 108, 105, 110]⟩ ⟨#[69, 105, 114, 101]⟩ 0 (by kernel_rfl) (by kernel_rfl) (by kernel_rfl) 2 rfl (by decide) _ 2 V0
    (strs_lit [⟨#[69, 117, 114, 111, 112, 101, 47, 68, 117, 98, 108, 105, 110]⟩, ⟨#[69, 105, 114, 101]⟩] (cs := #[.string ⟨#[69, 117, 114, 111, 112, 101, 47, 68, 117, 98, 108, 105, 110]⟩, .string ⟨#[69, 105, 114, 101]⟩]) (by rw [← hV0, Below.heap_alloc _ _ _ (by have := hB.size; rw [tabW_size] at this; omega), hB.block _ (by omega)]; exact tabW_strs0 w) rfl (by decide))

set_option maxHeartbeats 1000000 in
theorem round12_1 (w wr : World) (hB : Below (w.heap.size + 6) (tabW w) wr) (V0 : World) (hV0 : wr.alloc (.cells #[.slice (some ⟨w.heap.size + 1, 0, none⟩) 1 1, .string ⟨#[]⟩, .string ⟨#[]⟩, .int .i64 5] 60) = V0) :
    Calls Tryd.prog 25 #[.slice (some ⟨w.heap.size + 1, 0, none⟩) 1 1] V0 fun e V => e = .returned (.tuple #[.agg #[.string ⟨#[]⟩, .string ⟨#[]⟩], .int .i64 5]) ∧ Below V0.heap.size V0 V :=
  link25_is [⟨#[97]⟩] ⟨#[]⟩ ⟨#[]⟩ 5 (by kernel_rfl) (by kernel_rfl) (by kernel_rfl) 1 rfl (by decide) _ 1 V0
    (strs_lit [⟨#[97]⟩] (cs := #[.string ⟨#[97]⟩]) (by rw [← hV0, Below.heap_alloc _ _ _ (by have := hB.size; rw [tabW_size] at this; omega), hB.block _ (by omega)]; exact tabW_strs1 w) rfl (by decide))

set_option maxHeartbeats 1000000 in
theorem round12_2 (w wr : World) (hB : Below (w.heap.size + 6) (tabW w) wr) (V0 : World) (hV0 : wr.alloc (.cells #[.slice (some ⟨w.heap.size + 1 + 1, 0, none⟩) 3 3, .string ⟨#[]⟩, .string ⟨#[]⟩, .int .i64 5] 60) = V0) :
    Calls Tryd.prog 25 #[.slice (some ⟨w.heap.size + 1 + 1, 0, none⟩) 3 3] V0 fun e V => e = .returned (.tuple #[.agg #[.string ⟨#[]⟩, .string ⟨#[]⟩], .int .i64 5]) ∧ Below V0.heap.size V0 V :=
  link25_is [⟨#[97]⟩, ⟨#[98]⟩, ⟨#[99]⟩] ⟨#[]⟩ ⟨#[]⟩ 5 (by kernel_rfl) (by kernel_rfl) (by kernel_rfl) 3 rfl (by decide) _ 3 V0
    (strs_lit [⟨#[97]⟩, ⟨#[98]⟩, ⟨#[99]⟩] (cs := #[.string ⟨#[97]⟩, .string ⟨#[98]⟩, .string ⟨#[99]⟩]) (by rw [← hV0, Below.heap_alloc _ _ _ (by have := hB.size; rw [tabW_size] at this; omega), hB.block _ (by omega)]; exact tabW_strs2 w) rfl (by decide))

set_option maxHeartbeats 1000000 in
theorem round12_3 (w wr : World) (hB : Below (w.heap.size + 6) (tabW w) wr) (V0 : World) (hV0 : wr.alloc (.cells #[.slice (some ⟨w.heap.size + 1 + 1 + 1, 0, none⟩) 2 2, .string ⟨#[]⟩, .string ⟨#[]⟩, .int .i64 9] 60) = V0) :
    Calls Tryd.prog 25 #[.slice (some ⟨w.heap.size + 1 + 1 + 1, 0, none⟩) 2 2] V0 fun e V => e = .returned (.tuple #[.agg #[.string ⟨#[]⟩, .string ⟨#[]⟩], .int .i64 9]) ∧ Below V0.heap.size V0 V :=
  link25_is [⟨#[97]⟩, ⟨#[45, 98]⟩] ⟨#[]⟩ ⟨#[]⟩ 9 (by kernel_rfl) (by kernel_rfl) (by kernel_rfl) 2 rfl (by decide) _ 2 V0
    (strs_lit [⟨#[97]⟩, ⟨#[45, 98]⟩] (cs := #[.string ⟨#[97]⟩, .string ⟨#[45, 98]⟩]) (by rw [← hV0, Below.heap_alloc _ _ _ (by have := hB.size; rw [tabW_size] at this; omega), hB.block _ (by omega)]; exact tabW_strs3 w) rfl (by decide))

set_option maxHeartbeats 1000000 in
theorem round12_4 (w wr : World) (hB : Below (w.heap.size + 6) (tabW w) wr) (V0 : World) (hV0 : wr.alloc (.cells #[.slice (some ⟨w.heap.size + 1 + 1 + 1 + 1, 0, none⟩) 2 2, .string ⟨#[]⟩, .string ⟨#[]⟩, .int .i64 9] 60) = V0) :
    Calls Tryd.prog 25 #[.slice (some ⟨w.heap.size + 1 + 1 + 1 + 1, 0, none⟩) 2 2] V0 fun e V => e = .returned (.tuple #[.agg #[.string ⟨#[]⟩, .string ⟨#[]⟩], .int .i64 9]) ∧ Below V0.heap.size V0 V :=
  link25_is [⟨#[]⟩, ⟨#[98]⟩] ⟨#[]⟩ ⟨#[]⟩ 9 (by kernel_rfl) (by kernel_rfl) (by kernel_rfl) 2 rfl (by decide) _ 2 V0
    (strs_lit [⟨#[]⟩, ⟨#[98]⟩] (cs := #[.string ⟨#[]⟩, .string ⟨#[98]⟩]) (by rw [← hV0, Below.heap_alloc _ _ _ (by have := hB.size; rw [tabW_size] at this; omega), hB.block _ (by omega)]; exact tabW_strs4 w) rfl (by decide))
end Go.Proofs.YticmkjcaekhgpaaDoor
