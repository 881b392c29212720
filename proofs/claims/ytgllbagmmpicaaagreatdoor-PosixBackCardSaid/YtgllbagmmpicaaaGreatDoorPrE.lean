/- What the program's and the library's variables hold, and that they keep it. -/
import Derived.Test.YtgllbagmmpicaaaGreatDoorDayW
import Derived.Test.YtgllbagmmpicaaaGreatDoorShelf
namespace Go.Proofs.YtgllbagmmpicaaaGreatDoor.Px
open Go.RowKit
open Civ

/-- the variables that are read lie below this block -/
def top : Nat := max (0 + 1) (max (1 + 1) (max (3 + 1) (max (4 + 1) (max (2 + 1) (6 + 1)))))
theorem tab_low {w w' : World} {k : IntKind} {zs : List Int} (h : Lib.TabIs Tryz.prog w "internal/strconv.uint64pow10" k zs) (hB : Below top w w') : Lib.TabIs Tryz.prog w' "internal/strconv.uint64pow10" k zs := by
  unfold Lib.TabIs World.var? at *
  have hg : Tryz.prog.globalNamed "internal/strconv.uint64pow10" = some 6 := by kernel_rfl
  rw [hg] at h ⊢
  simp only [Option.bind_some] at h ⊢
  rw [hB.block 6 (by decide)]
  exact h
theorem tab_lt {w : World} {k : IntKind} {zs : List Int} (h : Lib.TabIs Tryz.prog w "internal/strconv.uint64pow10" k zs) : 6 < w.heap.size := by
  unfold Lib.TabIs World.var? at h
  have hg : Tryz.prog.globalNamed "internal/strconv.uint64pow10" = some 6 := by kernel_rfl
  rw [hg] at h
  simp only [Option.bind_some] at h
  apply Classical.byContradiction
  intro hn
  rw [Array.getElem?_eq_none (by omega)] at h
  cases h
/-- what the variables hold that the functions read -/
structure EnvAt (w : World) : Prop where
  before : BeforeAt w
  kinds : KindsAt w
  syn : ∃ te pe, w.cell? ⟨3, 0, none⟩ = some (.iface te pe)
  rng : ∃ te pe, w.cell? ⟨4, 0, none⟩ = some (.iface te pe)
  pow : Lib.TabIs Tryz.prog w "internal/strconv.uint64pow10" .u64 Lib.pow10Tab
  units : w.cell? ⟨2, 0, none⟩ = some (.int .i64 3600) ∧ w.cell? ⟨2, 1, none⟩ = some (.int .i64 60) ∧ w.cell? ⟨2, 2, none⟩ = some (.int .i64 1)
theorem cell_low {w w' : World} {g i : Nat} {v : Value} (h : w.cell? ⟨g, i, none⟩ = some v) (hB : Below top w w') (hg : g < top) : w'.cell? ⟨g, i, none⟩ = some v := (hB.cell (p := ⟨g, i, none⟩) hg).trans h
theorem EnvAt.low {w w' : World} (h : EnvAt w) (hB : Below top w w') : EnvAt w' := by
  obtain ⟨a, b, ⟨t1, p1, c⟩, ⟨t2, p2, d⟩, e, f0, f1, f2⟩ := h
  exact ⟨fun i hi => cell_low (a i hi) hB (by decide), ⟨cell_low b.1 hB (by decide), cell_low b.2.1 hB (by decide), cell_low b.2.2.1 hB (by decide), cell_low b.2.2.2.1 hB (by decide), cell_low b.2.2.2.2.1 hB (by decide), cell_low b.2.2.2.2.2 hB (by decide)⟩,
    ⟨t1, p1, cell_low c hB (by decide)⟩, ⟨t2, p2, cell_low d hB (by decide)⟩, tab_low e hB, cell_low f0 hB (by decide), cell_low f1 hB (by decide), cell_low f2 hB (by decide)⟩
theorem EnvAt.top {w : World} (h : EnvAt w) : Px.top ≤ w.heap.size := by
  have h1 := block_lt_of_cell (h.before 0 (by decide))
  have h2 := block_lt_of_cell h.kinds.1
  obtain ⟨_, _, h3⟩ := h.syn
  obtain ⟨_, _, h4⟩ := h.rng
  have h3 := block_lt_of_cell h3
  have h4 := block_lt_of_cell h4
  have h5 := tab_lt h.pow
  have h6 := block_lt_of_cell h.units.1
  dsimp only at h1 h2 h3 h4 h6
  unfold Px.top
  omega
theorem EnvAt.keep {w w' : World} (h : EnvAt w) (hB : Below w.heap.size w w') : EnvAt w' := h.low (hB.mono h.top)
/-- all blocks but one are as they were -/
structure But (b : Nat) (w w' : World) : Prop where
  below : Below b w w'
  above : ∀ k, b < k → k < w.heap.size → w'.heap[k]? = w.heap[k]?
theorem But.refl (b : Nat) (w : World) : But b w w := ⟨Below.refl _ _, fun _ _ _ => rfl⟩
theorem But.trans {b : Nat} {u v w : World} (h : But b u v) (k : But b v w) : But b u w :=
  ⟨h.below.trans k.below, fun i h1 h2 => (k.above i h1 (Nat.lt_of_lt_of_le h2 h.below.size)).trans (h.above i h1 h2)⟩
theorem But.of_below {b : Nat} {w w' : World} (hB : Below w.heap.size w w') (hb : b ≤ w.heap.size) : But b w w' := ⟨hB.mono hb, fun _ _ h2 => hB.block _ h2⟩
theorem But.set {b : Nat} (w : World) (i : Nat) (u : Value) : But b w (w.setCell ⟨b, i, none⟩ u) :=
  ⟨(Below.refl b w).setCell (p := ⟨b, i, none⟩) (Nat.le_refl b) u, fun k h1 _ => Below.heap_setCell _ _ _ _ (by show k ≠ b; omega)⟩
theorem But.heap {b k : Nat} {w w' : World} {x : Obj} (h : But b w w') (hk : w.heap[k]? = some x) (hne : k ≠ b) : w'.heap[k]? = some x := by
  have hlt : k < w.heap.size := lt_of_block hk
  rcases Nat.lt_or_gt_of_ne hne with h1 | h1
  · exact (h.below.block k h1).trans hk
  · exact (h.above k h1 hlt).trans hk
theorem But.low {b B : Nat} {w w' : World} (h : But b w w') (hB : B ≤ b) : Below B w w' := h.below.mono hB
end Go.Proofs.YtgllbagmmpicaaaGreatDoor.Px
