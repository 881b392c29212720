/- What the rows of chapter 39 list: the table of strconv, the cell of bytealg.MaxLen; slices of strings that are handed to a law, opened. -/
import Derived.Test.YtkfgonbopgdmgaaDoorEqS
import Derived.Test.YtkfgonbopgdmgaaDoorShelf
import Derived.Test.YtkfgonbopgdmgaaDoorRows
import Derived.LaidMore
import Derived.Stop.LaidErr
import Derived.Lib.LaidTab
import Derived.OpenShut
import Derived.Lib.AppendIntMem
namespace Go.Proofs.YtkfgonbopgdmgaaDoor.Px
open Go.RowKit
open Go.Joins Go.ChangeShapes Go.WideShapes Go.Deep
open Tb

theorem tab_lt {w : World} {k : IntKind} {zs : List Int} (h : Lib.TabIs Tryd.prog w "internal/strconv.uint64pow10" k zs) : 3 < w.heap.size := by
  unfold Lib.TabIs World.var? at h
  have hg : Tryd.prog.globalNamed "internal/strconv.uint64pow10" = some 3 := by kernel_rfl
  rw [hg] at h
  simp only [Option.bind_some] at h
  apply Classical.byContradiction
  intro hn
  rw [Array.getElem?_eq_none (by omega)] at h
  cases h
theorem tab_keep {w w' : World} {k : IntKind} {zs : List Int} (h : Lib.TabIs Tryd.prog w "internal/strconv.uint64pow10" k zs) (hB : Below w.heap.size w w') : Lib.TabIs Tryd.prog w' "internal/strconv.uint64pow10" k zs := by
  have hlt := tab_lt h
  unfold Lib.TabIs World.var? at *
  have hg : Tryd.prog.globalNamed "internal/strconv.uint64pow10" = some 3 := by kernel_rfl
  rw [hg] at h ⊢
  simp only [Option.bind_some] at h ⊢
  rw [hB.block 3 hlt]
  exact h
/-- what the variables hold that the functions read -/
structure EnvAt (w : World) : Prop where
  pow : Lib.TabIs Tryd.prog w "internal/strconv.uint64pow10" .u64 Lib.pow10Tab
  mx : ∃ m, w.cell? ⟨0, 0, none⟩ = some (.int .i64 m)
theorem EnvAt.keep {w w' : World} (h : EnvAt w) (hB : Below w.heap.size w w') : EnvAt w' :=
  ⟨tab_keep h.pow hB, h.mx.imp fun _ hm => (hB.cell (p := ⟨0, 0, none⟩) (block_lt_of_cell hm)).trans hm⟩
def lay5 : List (String × DataW Unit) := [("math/bits.deBruijn32tab", Rows.laid_math_bits_deBruijn32tab), ("math/bits.deBruijn64tab", Rows.laid_math_bits_deBruijn64tab), ("internal/strconv.uint64pow10", Rows.laid_internal_strconv_uint64pow10), ("unicode/utf8.acceptRanges", Rows.laid_unicode_utf8_acceptRanges), ("unicode/utf8.first", Rows.laid_unicode_utf8_first)]
theorem pow_of {W : World} (h : laidMetH Tryd.prog lay5 W) : Lib.TabIs Tryd.prog W "internal/strconv.uint64pow10" .u64 Lib.pow10Tab := by
  unfold laidMetH at h
  rw [show (lay5.filter fun x => x.2.handleName?.isSome) = [] from by kernel_rfl] at h
  have h1 := h.tail.tail
  exact Lib.tabIs_of_head (t := 125) (e := 99) (n := 20) (show Tryd.prog.globalNamed "internal/strconv.uint64pow10" = some 3 by kernel_rfl) (by kernel_rfl) (by kernel_rfl) (by kernel_rfl) (by kernel_rfl) (by kernel_rfl) h1
theorem itoa_any (x : Int) (h0 : -9223372036854775808 ≤ x) (h1 : x ≤ 9223372036854775807) (w : World) (hE : EnvAt w) :
    Calls Tryd.prog 57 #[.int .i64 x] w fun e w' => e = .returned (.string (bs (Lib.itoa x))) ∧ Below w.heap.size w w' := by
  refine (Tryd.strconv_Itoa x h0 h1 w hE.pow).mono ?_
  rintro e w' ⟨rfl, k, os, rfl⟩
  exact ⟨rfl, Lib.below_grow _ _ (Nat.le_refl _) _ _⟩
section
variable {H : Type} {enc : TypeId × Value → H} {w : World} {base : Nat} {spare : Nat → Bool} {held : Bool}
set_option maxRecDepth 100000 in
/-- a slice of strings that came in -/
theorem open_strs_arg {r : Reach} {b0 : Nat} {v : Value} {d : DataW H} {p : List MemPlace} (hv : Value.okWide Tryd.prog w r b0 22 v) (h : DataW.Trod enc Tryd.prog w base spare held 22 v d p) :
    ∃ L : List (List UInt8), StrV w v L ∧ (∀ l ∈ L, l.length ≤ maxLen) ∧ ∀ c, v = .slice none L.length c → c = 0 := by
  obtain ⟨fuel, hf⟩ := slice_cells Tryd.underlying22 hv h
  have hnil := fun n c => slice_nil Tryd.underlying22 hf n c
  rcases open_strings Tryd.underlying22 Tryd.underlying9 (by kernel_rfl) hf with ⟨hcs, _⟩ | ⟨a, len, cap, ss, hcs, _, hl, hm, hz, _, hcell, hws⟩
  · simp only [List.cons.injEq, and_true] at hcs
    subst hcs
    exact ⟨[], SlV.nil w 1, (fun l hl => by cases hl), fun c hc => hnil _ _ hc⟩
  · simp only [List.cons.injEq, and_true] at hcs
    subst hcs
    have hz' : len ≤ ss.length := by rw [hz]; split <;> omega
    have hlen : ((ss.take len).map (·.data.toList)).length = len := by rw [List.length_map, List.length_take]; omega
    refine ⟨(ss.take len).map (·.data.toList), ⟨by simp, some a, cap, by rw [hlen], by rw [hlen]; exact hl, hm, ?_⟩, fun l hl' => ?_, fun c hc => hnil _ _ hc⟩
    · by_cases h0 : len = 0
      · left; rw [hlen]; exact h0
      right
      have h00 := hcell 0 (by omega)
      obtain ⟨b, off, spot⟩ := a
      have hspot : spot = none := by simpa [Addr.add] using World.cell?_spot h00
      subst hspot
      refine ⟨b, off, rfl, ?_, fun j u hu => ?_⟩
      · rw [WideShapes.add_plain] at h00
        exact block_lt_of_cell h00
      · have hj : j < len := by
          have := (List.getElem?_eq_some_iff.1 hu).1
          rw [List.length_map, hlen] at this
          exact this
        have hc := hcell j (by omega)
        rw [WideShapes.add_plain] at hc
        rw [hc, ← hu, List.getElem?_map, List.getElem?_map, List.getElem?_take, if_pos hj, List.getElem?_eq_getElem (by omega)]
        simp [sv, bs, List.getD, List.getElem?_eq_getElem (show j < ss.length by omega)]
    · obtain ⟨x, hx, rfl⟩ := List.mem_map.1 hl'
      exact hws x (List.mem_of_mem_take hx)
end
end Go.Proofs.YtkfgonbopgdmgaaDoor.Px
