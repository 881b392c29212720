/- Slices and local times that are handed to a law, opened. Tables by numbers (chapter 40) that are handed to a law, opened with the lengths of their lists. -/
import Derived.Test.YtkpmmabdpeobaaaGreatDoorSU20
import Derived.Test.YtkpmmabdpeobaaaGreatDoorSU25
import Derived.SizedLaws
namespace Go.Proofs.YtkpmmabdpeobaaaGreatDoor.Px
open Go.RowKit
open Civ Tb
open Go.Joins Go.ChangeShapes Go.WideShapes Go.Deep
section
variable {H : Type} {enc : TypeId × Value → H} {w : World} {base : Nat} {spare : Nat → Bool} {held : Bool}
theorem slice_nil {t e : TypeId} {fuel : Nat} {v : Value} {x : DataW H × List MemPlace} (ht : Tryz.prog.underlying t = some (.slice e)) (h : DataW.trod enc Tryz.prog w base spare held fuel t [v] = some x) : ∀ n c, v = .slice none n c → c = 0 := by
 intro n c hc
 rcases open_slice ht h with ⟨h0, _⟩ | ⟨a, len, cap, m, k, D, Pl, h0, _⟩
 · simp only [List.cons.injEq, and_true] at h0
   rw [h0] at hc
   simp only [Value.slice.injEq] at hc
   exact hc.2.2.symm
 · simp only [List.cons.injEq, and_true] at h0
   rw [h0] at hc
   simp at hc
set_option maxRecDepth 100000 in
theorem slice_cells {t e : TypeId} {r : Reach} {b0 : Nat} {v : Value} {d : DataW H} {p : List MemPlace} (ht : Tryz.prog.underlying t = some (.slice e)) (hv : Value.okWide Tryz.prog w r b0 t v) (h : DataW.Trod enc Tryz.prog w base spare held t v d p) :
 ∃ fuel, DataW.trod enc Tryz.prog w base spare held fuel t [v] = some (d, p) := by
 obtain ⟨a, len, cap, rfl⟩ := okWide_slice ht hv
 obtain ⟨fuel, hf⟩ := h
 exact ⟨fuel, hf⟩
end
end Go.Proofs.YtkpmmabdpeobaaaGreatDoor.Px
namespace Go.Proofs.YtkpmmabdpeobaaaGreatDoor.Px
open Go.RowKit
open Civ Tb
open Go.Joins Go.ChangeShapes Go.WideShapes Go.Deep
section
variable {H : Type} {enc : TypeId × Value → H} {w : World} {base : Nat} {spare : Nat → Bool} {held : Bool}
theorem slice_size {t e : TypeId} {fuel : Nat} {v : Value} {x : DataW H × List MemPlace} {k : IntKind} {L : List Int} (ht : Tryz.prog.underlying t = some (.slice e)) (h : DataW.trod enc Tryz.prog w base spare held fuel t [v] = some x) (hL : IsV w k v L)
 (hz : (DataW.weights Tryz.prog t x.1).all (· ≤ reachBytes) = true) : L.length * Tryz.prog.bytesOf e ≤ reachBytes := by
 obtain ⟨a', c', hv, _, _⟩ := hL.slice
 rcases open_slice ht h with ⟨h0, _⟩ | ⟨a, len, cap, m, n, D, Pl, h0, _, hl, hm, hmm, hx, _⟩
 · simp only [List.cons.injEq, and_true] at h0
   rw [h0] at hv
   simp only [Value.slice.injEq] at hv
   rw [← hv.2.1]
   simp
 · simp only [List.cons.injEq, and_true] at h0
   rw [h0] at hv
   simp only [Value.slice.injEq] at hv
   rw [← hv.2.1]
   have h1 : (len + (m - len)) * Tryz.prog.bytesOf e ∈ DataW.weights Tryz.prog t x.1 := by
    rw [hx]
    simp only [DataW.weights, ht, List.length_map, List.length_range]
    exact List.mem_cons_self ..
   have h2 := List.all_eq_true.1 hz _ h1
   have h3 : (len + (m - len)) * Tryz.prog.bytesOf e ≤ reachBytes := by simpa using h2
   exact Nat.le_trans (Nat.mul_le_mul_right _ (by omega)) h3
set_option maxRecDepth 100000 in
theorem open_d40n {r : Reach} {b0 : Nat} {v : Value} {d : DataW H} {p : List MemPlace} (hv : Value.okWide Tryz.prog w r b0 41 v) (h : DataW.Trod enc Tryz.prog w base spare held 41 v d p)
 (hz : (DataW.weights Tryz.prog 41 d).all (· ≤ reachBytes) = true) :
 ∃ (q : D40) (tv sv nv : Value), v = d40val q tv sv nv ∧ D40V w tv sv nv q ∧ q.In ∧ (∀ c, tv = .slice none q.types.length c → c = 0) ∧ (∀ c, sv = .slice none q.steps.length c → c = 0) ∧ q.types.length * 2 ≤ 140737488351232 ∧ q.steps.length * 4 ≤ 140737488351232 := by
 obtain ⟨q, tv, sv, nv, rfl, hq, hin⟩ := open_d40 hv h
 obtain ⟨fuel, hf⟩ := h
 obtain ⟨xs, n, _, hy, _, hlen, hg⟩ := DataW.trod_struct Tryz.underlying41 hf
 have h16 : Tryz.prog.cellsOf 38 = 1 := by kernel_rfl
 have h32 : Tryz.prog.cellsOf 39 = 1 := by kernel_rfl
 match xs, hlen with
 | [y0, y1, y2, y3, y4, y5], _ =>
   have g0 : DataW.trod enc Tryz.prog w base spare held n 38 ([tv, sv, nv, .int .i32 q.begin_, .int .u8 q.foot, .int .u8 q.base].take (Tryz.prog.cellsOf 38)) = some y0 := hg 0 _ rfl
   have g1 : DataW.trod enc Tryz.prog w base spare held n 39 ([sv, nv, .int .i32 q.begin_, .int .u8 q.foot, .int .u8 q.base].take (Tryz.prog.cellsOf 39)) = some y1 := hg 1 _ rfl
   rw [h16] at g0
   rw [h32] at g1
   simp only [Prod.mk.injEq] at hy
   obtain ⟨rfl, _⟩ := hy
   have hw : ∀ z, z ∈ DataW.weights Tryz.prog 38 y0.1 ∨ z ∈ DataW.weights Tryz.prog 39 y1.1 → z ∈ DataW.weights Tryz.prog 41 (.agg ([y0, y1, y2, y3, y4, y5].map (·.1))) := by
    intro z hz'
    simp only [DataW.weights, Tryz.underlying41]
    show z ∈ DataW.weights Tryz.prog 38 y0.1 ++ (DataW.weights Tryz.prog 39 y1.1 ++ _)
    rcases hz' with hz' | hz'
    · exact List.mem_append_left _ hz'
    · exact List.mem_append_right _ (List.mem_append_left _ hz')
   have z0 : (DataW.weights Tryz.prog 38 y0.1).all (· ≤ reachBytes) = true := List.all_eq_true.2 fun z hz' => List.all_eq_true.1 hz z (hw z (.inl hz'))
   have z1 : (DataW.weights Tryz.prog 39 y1.1).all (· ≤ reachBytes) = true := List.all_eq_true.2 fun z hz' => List.all_eq_true.1 hz z (hw z (.inr hz'))
   have s0 := slice_size Tryz.underlying38 g0 hq.types z0
   have s1 := slice_size Tryz.underlying39 g1 hq.steps z1
   rw [show Tryz.prog.bytesOf 65 = 2 by kernel_rfl] at s0
   rw [show Tryz.prog.bytesOf 42 = 4 by kernel_rfl] at s1
   have hr : reachBytes = 140737488351232 := by kernel_rfl
   rw [hr] at s0 s1
   exact ⟨q, tv, sv, nv, rfl, hq, hin, fun c hc => slice_nil Tryz.underlying38 g0 _ c hc, fun c hc => slice_nil Tryz.underlying39 g1 _ c hc, s0, s1⟩
end
end Go.Proofs.YtkpmmabdpeobaaaGreatDoor.Px
