/- The function works of the law of chapter 5 returns true in any world; no block that was there changes. -/
import Derived.Test.YtjdckmhlgcjdgaaDoorLxK
namespace Go.Proofs.YtjdckmhlgcjdgaaDoor.Lx
open Go.RowKit
open Lex (strV bytesOf fieldsL fieldsE)

theorem heap_alloc_at {w : World} {o : Obj} {n : Nat} (h : n = w.heap.size) : (w.alloc o).heap[n]? = some o := by rw [h]; exact heap_alloc_new w o
theorem below_drewN {B : Nat} {a w : World} (h : Below B a w) (n : Nat) : Below B a (w.drewN n) := ⟨h.os, h.tape, h.output, h.size, h.block⟩
/-- the cell of internal/bytealg.MaxLen -/
def MaxAt (w : World) : Prop := 0 < w.heap.size ∧ ∃ m, w.cell? ⟨0, 0, none⟩ = some (.int .i64 m)
theorem MaxAt.keep {w w' : World} (h : MaxAt w) (hB : Below w.heap.size w w') : MaxAt w' := by
  obtain ⟨h0, m, hm⟩ := h
  exact ⟨Nat.lt_of_lt_of_le h0 hB.size, m, (hB.cell (p := ⟨0, 0, none⟩) h0).trans hm⟩
theorem MaxAt.alloc {w : World} (h : MaxAt w) (o : Obj) : MaxAt (w.alloc o) := h.keep ((Below.refl _ _).alloc (Nat.le_refl _) _)
theorem StrsV.alloc {W : World} {v : Value} {L : List (List UInt8)} (h : StrsV W v L) (o : Obj) : StrsV (W.alloc o) v L := h.keep ((Below.refl _ _).alloc (Nat.le_refl _) _)

theorem lines_c (t : ByteArray) (L : List (List UInt8)) (n er : Int) (ht : t.size ≤ 1000) (h1 : linesL t.data.toList = L) (h2 : linesN t.data.toList = n) (h3 : linesE t.data.toList = er) (w : World) (hm : MaxAt w) :
    Calls Tryd.prog 12 #[.string t] w fun e w' => ∃ v, e = .returned (.tuple #[v, .int .i64 n, .int .i64 er]) ∧ StrsV w' v L ∧ Below w.heap.size w w' := by
  subst h1 h2 h3
  exact lines_any t (by unfold maxLen; omega) w hm.2
theorem fields_c (t : ByteArray) (L : List (List UInt8)) (er : Int) (ht : t.size ≤ 1000) (h1 : fieldsL t.data.toList = L) (h3 : fieldsE t.data.toList = er) (w : World) :
    Calls Tryd.prog 16 #[.string t] w fun e w' => ∃ v, e = .returned (.tuple #[v, .int .i64 er]) ∧ StrsV w' v L ∧ Below w.heap.size w w' := by
  subst h1 h3
  exact fields_any t (by unfold maxLen; omega) w
theorem join_c (F : List (List UInt8)) (o : ByteArray) (er : Int) (v : Value) (w : World) (hv : StrsV w v F) (hl : ∀ p ∈ F, p.length ≤ 4000000000) (hsum : sumL F ≤ 100000000000000) (h1 : bytesOf (joinS F) = o) (h2 : joinE F = er) :
    Calls Tryd.prog 20 #[v] w fun e w' => e = .returned (.tuple #[.string o, .int .i64 er]) ∧ Below w.heap.size w w' := by
  subst h1 h2
  exact join_any F v w hv hl hsum

/-- the world behind the rows of a table -/
def tabA (w : World) : World := ((((w.alloc (.cells #[.string ⟨#[97]⟩, .string ⟨#[98]⟩] 9)).alloc (.cells #[.string ⟨#[97]⟩, .string ⟨#[]⟩] 9)).alloc (.cells #[.string ⟨#[]⟩] 9)).alloc (.cells #[.string ⟨#[]⟩] 9)).alloc (.cells #[.string ⟨#[97, 10, 98, 10]⟩, .slice (some ⟨w.heap.size, 0, none⟩) 2 2, .string ⟨#[97, 10, 10]⟩, .slice (some ⟨w.heap.size + 1, 0, none⟩) 2 2, .string ⟨#[]⟩, .slice (some ⟨w.heap.size + 1 + 1, 0, none⟩) 1 1, .string ⟨#[10]⟩, .slice (some ⟨w.heap.size + 1 + 1 + 1, 0, none⟩) 1 1] 49)
theorem tabA_size (w : World) : (tabA w).heap.size = w.heap.size + 5 := by simp [tabA]
theorem tabA_below (w : World) : Below w.heap.size w (tabA w) := ((((((Below.refl _ w).alloc (by simp; try omega) _).alloc (by simp; try omega) _).alloc (by simp; try omega) _).alloc (by simp; try omega) _).alloc (by simp; try omega) _)
theorem tabA_c0 (w : World) : (tabA w).cell? ⟨w.heap.size + 1 + 1 + 1 + 1, 0, none⟩ = some (.string ⟨#[97, 10, 98, 10]⟩) := (World.cell?_alloc_at _ _ _ _ (by simp)).trans rfl
theorem tabA_c1 (w : World) : (tabA w).cell? ⟨w.heap.size + 1 + 1 + 1 + 1, 1, none⟩ = some (.slice (some ⟨w.heap.size, 0, none⟩) 2 2) := (World.cell?_alloc_at _ _ _ _ (by simp)).trans rfl
theorem tabA_c2 (w : World) : (tabA w).cell? ⟨w.heap.size + 1 + 1 + 1 + 1, 2, none⟩ = some (.string ⟨#[97, 10, 10]⟩) := (World.cell?_alloc_at _ _ _ _ (by simp)).trans rfl
theorem tabA_c3 (w : World) : (tabA w).cell? ⟨w.heap.size + 1 + 1 + 1 + 1, 3, none⟩ = some (.slice (some ⟨w.heap.size + 1, 0, none⟩) 2 2) := (World.cell?_alloc_at _ _ _ _ (by simp)).trans rfl
theorem tabA_c4 (w : World) : (tabA w).cell? ⟨w.heap.size + 1 + 1 + 1 + 1, 4, none⟩ = some (.string ⟨#[]⟩) := (World.cell?_alloc_at _ _ _ _ (by simp)).trans rfl
theorem tabA_c5 (w : World) : (tabA w).cell? ⟨w.heap.size + 1 + 1 + 1 + 1, 5, none⟩ = some (.slice (some ⟨w.heap.size + 1 + 1, 0, none⟩) 1 1) := (World.cell?_alloc_at _ _ _ _ (by simp)).trans rfl
theorem tabA_c6 (w : World) : (tabA w).cell? ⟨w.heap.size + 1 + 1 + 1 + 1, 6, none⟩ = some (.string ⟨#[10]⟩) := (World.cell?_alloc_at _ _ _ _ (by simp)).trans rfl
theorem tabA_c7 (w : World) : (tabA w).cell? ⟨w.heap.size + 1 + 1 + 1 + 1, 7, none⟩ = some (.slice (some ⟨w.heap.size + 1 + 1 + 1, 0, none⟩) 1 1) := (World.cell?_alloc_at _ _ _ _ (by simp)).trans rfl
theorem tabA_w0 (w : World) : StrsV (tabA w) (.slice (some ⟨w.heap.size, 0, none⟩) 2 2) [[97], [98]] :=
  StrsV.of_block (L := [[97], [98]]) (z := (0, 0)) (by unfold tabA; rw [Below.heap_alloc _ _ _ (by simp; try omega), Below.heap_alloc _ _ _ (by simp; try omega), Below.heap_alloc _ _ _ (by simp; try omega), Below.heap_alloc _ _ _ (by simp; try omega), heap_alloc_at (by simp)]) (Nat.le_refl _) (by unfold maxLen; decide) rfl
theorem tabA_w1 (w : World) : StrsV (tabA w) (.slice (some ⟨w.heap.size + 1, 0, none⟩) 2 2) [[97], []] :=
  StrsV.of_block (L := [[97], []]) (z := (0, 0)) (by unfold tabA; rw [Below.heap_alloc _ _ _ (by simp; try omega), Below.heap_alloc _ _ _ (by simp; try omega), Below.heap_alloc _ _ _ (by simp; try omega), heap_alloc_at (by simp)]) (Nat.le_refl _) (by unfold maxLen; decide) rfl
theorem tabA_w2 (w : World) : StrsV (tabA w) (.slice (some ⟨w.heap.size + 1 + 1, 0, none⟩) 1 1) [[]] :=
  StrsV.of_block (L := [[]]) (z := (0, 0)) (by unfold tabA; rw [Below.heap_alloc _ _ _ (by simp; try omega), Below.heap_alloc _ _ _ (by simp; try omega), heap_alloc_at (by simp)]) (Nat.le_refl _) (by unfold maxLen; decide) rfl
theorem tabA_w3 (w : World) : StrsV (tabA w) (.slice (some ⟨w.heap.size + 1 + 1 + 1, 0, none⟩) 1 1) [[]] :=
  StrsV.of_block (L := [[]]) (z := (0, 0)) (by unfold tabA; rw [Below.heap_alloc _ _ _ (by simp; try omega), heap_alloc_at (by simp)]) (Nat.le_refl _) (by unfold maxLen; decide) rfl
/-- the world behind the rows of a table -/
def tabB (w : World) : World := (((w.alloc (.cells #[.string ⟨#[82, 117, 108, 101]⟩, .string ⟨#[88]⟩, .string ⟨#[49]⟩] 9)).alloc (.cells #[.string ⟨#[97, 32, 98, 99]⟩, .string ⟨#[]⟩] 9)).alloc (.cells #[.string ⟨#[97]⟩] 9)).alloc (.cells #[.string ⟨#[82, 117, 108, 101, 32, 32, 88, 32, 49, 32, 35, 32, 121]⟩, .slice (some ⟨w.heap.size, 0, none⟩) 3 3, .int .i64 0, .string ⟨#[34, 97, 32, 98, 34, 99, 32, 34, 34]⟩, .slice (some ⟨w.heap.size + 1, 0, none⟩) 2 2, .int .i64 0, .string ⟨#[32, 32, 35, 32, 120]⟩, .slice none 0 0, .int .i64 0, .string ⟨#[97, 32, 34, 98]⟩, .slice none 0 0, .int .i64 5, .string ⟨#[97, 7]⟩, .slice none 0 0, .int .i64 5, .string ⟨#[97, 35, 7]⟩, .slice (some ⟨w.heap.size + 1 + 1, 0, none⟩) 1 1, .int .i64 0] 51)
theorem tabB_size (w : World) : (tabB w).heap.size = w.heap.size + 4 := by simp [tabB]
theorem tabB_below (w : World) : Below w.heap.size w (tabB w) := (((((Below.refl _ w).alloc (by simp; try omega) _).alloc (by simp; try omega) _).alloc (by simp; try omega) _).alloc (by simp; try omega) _)
theorem tabB_c0 (w : World) : (tabB w).cell? ⟨w.heap.size + 1 + 1 + 1, 0, none⟩ = some (.string ⟨#[82, 117, 108, 101, 32, 32, 88, 32, 49, 32, 35, 32, 121]⟩) := (World.cell?_alloc_at _ _ _ _ (by simp)).trans rfl
theorem tabB_c1 (w : World) : (tabB w).cell? ⟨w.heap.size + 1 + 1 + 1, 1, none⟩ = some (.slice (some ⟨w.heap.size, 0, none⟩) 3 3) := (World.cell?_alloc_at _ _ _ _ (by simp)).trans rfl
theorem tabB_c2 (w : World) : (tabB w).cell? ⟨w.heap.size + 1 + 1 + 1, 2, none⟩ = some (.int .i64 0) := (World.cell?_alloc_at _ _ _ _ (by simp)).trans rfl
theorem tabB_c3 (w : World) : (tabB w).cell? ⟨w.heap.size + 1 + 1 + 1, 3, none⟩ = some (.string ⟨#[34, 97, 32, 98, 34, 99, 32, 34, 34]⟩) := (World.cell?_alloc_at _ _ _ _ (by simp)).trans rfl
theorem tabB_c4 (w : World) : (tabB w).cell? ⟨w.heap.size + 1 + 1 + 1, 4, none⟩ = some (.slice (some ⟨w.heap.size + 1, 0, none⟩) 2 2) := (World.cell?_alloc_at _ _ _ _ (by simp)).trans rfl
theorem tabB_c5 (w : World) : (tabB w).cell? ⟨w.heap.size + 1 + 1 + 1, 5, none⟩ = some (.int .i64 0) := (World.cell?_alloc_at _ _ _ _ (by simp)).trans rfl
theorem tabB_c6 (w : World) : (tabB w).cell? ⟨w.heap.size + 1 + 1 + 1, 6, none⟩ = some (.string ⟨#[32, 32, 35, 32, 120]⟩) := (World.cell?_alloc_at _ _ _ _ (by simp)).trans rfl
theorem tabB_c7 (w : World) : (tabB w).cell? ⟨w.heap.size + 1 + 1 + 1, 7, none⟩ = some (.slice none 0 0) := (World.cell?_alloc_at _ _ _ _ (by simp)).trans rfl
theorem tabB_c8 (w : World) : (tabB w).cell? ⟨w.heap.size + 1 + 1 + 1, 8, none⟩ = some (.int .i64 0) := (World.cell?_alloc_at _ _ _ _ (by simp)).trans rfl
theorem tabB_c9 (w : World) : (tabB w).cell? ⟨w.heap.size + 1 + 1 + 1, 9, none⟩ = some (.string ⟨#[97, 32, 34, 98]⟩) := (World.cell?_alloc_at _ _ _ _ (by simp)).trans rfl
theorem tabB_c10 (w : World) : (tabB w).cell? ⟨w.heap.size + 1 + 1 + 1, 10, none⟩ = some (.slice none 0 0) := (World.cell?_alloc_at _ _ _ _ (by simp)).trans rfl
theorem tabB_c11 (w : World) : (tabB w).cell? ⟨w.heap.size + 1 + 1 + 1, 11, none⟩ = some (.int .i64 5) := (World.cell?_alloc_at _ _ _ _ (by simp)).trans rfl
theorem tabB_c12 (w : World) : (tabB w).cell? ⟨w.heap.size + 1 + 1 + 1, 12, none⟩ = some (.string ⟨#[97, 7]⟩) := (World.cell?_alloc_at _ _ _ _ (by simp)).trans rfl
theorem tabB_c13 (w : World) : (tabB w).cell? ⟨w.heap.size + 1 + 1 + 1, 13, none⟩ = some (.slice none 0 0) := (World.cell?_alloc_at _ _ _ _ (by simp)).trans rfl
theorem tabB_c14 (w : World) : (tabB w).cell? ⟨w.heap.size + 1 + 1 + 1, 14, none⟩ = some (.int .i64 5) := (World.cell?_alloc_at _ _ _ _ (by simp)).trans rfl
theorem tabB_c15 (w : World) : (tabB w).cell? ⟨w.heap.size + 1 + 1 + 1, 15, none⟩ = some (.string ⟨#[97, 35, 7]⟩) := (World.cell?_alloc_at _ _ _ _ (by simp)).trans rfl
theorem tabB_c16 (w : World) : (tabB w).cell? ⟨w.heap.size + 1 + 1 + 1, 16, none⟩ = some (.slice (some ⟨w.heap.size + 1 + 1, 0, none⟩) 1 1) := (World.cell?_alloc_at _ _ _ _ (by simp)).trans rfl
theorem tabB_c17 (w : World) : (tabB w).cell? ⟨w.heap.size + 1 + 1 + 1, 17, none⟩ = some (.int .i64 0) := (World.cell?_alloc_at _ _ _ _ (by simp)).trans rfl
theorem tabB_w0 (w : World) : StrsV (tabB w) (.slice (some ⟨w.heap.size, 0, none⟩) 3 3) [[82, 117, 108, 101], [88], [49]] :=
  StrsV.of_block (L := [[82, 117, 108, 101], [88], [49]]) (z := (0, 0)) (by unfold tabB; rw [Below.heap_alloc _ _ _ (by simp; try omega), Below.heap_alloc _ _ _ (by simp; try omega), Below.heap_alloc _ _ _ (by simp; try omega), heap_alloc_at (by simp)]) (Nat.le_refl _) (by unfold maxLen; decide) rfl
theorem tabB_w1 (w : World) : StrsV (tabB w) (.slice (some ⟨w.heap.size + 1, 0, none⟩) 2 2) [[97, 32, 98, 99], []] :=
  StrsV.of_block (L := [[97, 32, 98, 99], []]) (z := (0, 0)) (by unfold tabB; rw [Below.heap_alloc _ _ _ (by simp; try omega), Below.heap_alloc _ _ _ (by simp; try omega), heap_alloc_at (by simp)]) (Nat.le_refl _) (by unfold maxLen; decide) rfl
theorem tabB_w2 (w : World) : StrsV (tabB w) (.slice none 0 0) [] := StrsV.nil _
theorem tabB_w3 (w : World) : StrsV (tabB w) (.slice none 0 0) [] := StrsV.nil _
theorem tabB_w4 (w : World) : StrsV (tabB w) (.slice none 0 0) [] := StrsV.nil _
theorem tabB_w5 (w : World) : StrsV (tabB w) (.slice (some ⟨w.heap.size + 1 + 1, 0, none⟩) 1 1) [[97]] :=
  StrsV.of_block (L := [[97]]) (z := (0, 0)) (by unfold tabB; rw [Below.heap_alloc _ _ _ (by simp; try omega), heap_alloc_at (by simp)]) (Nat.le_refl _) (by unfold maxLen; decide) rfl

set_option maxHeartbeats 16000000 in
set_option maxRecDepth 100000 in
theorem works_any (w : World) (hm : MaxAt w) : Calls Tryd.prog 11 #[] w fun e w' => e = .returned (.bool true) ∧ Below w.heap.size w w' := by
  have HM := Lib.hid hm
  clear hm
  go_enter Tryd.func11, Tryd.ntmps11
  go_wp2_with fail
  go_loopw [24] (fun i wr => ∃ k : Nat, k ≤ 4 ∧ i = .int .i64 k ∧ Below (w.heap.size + 5) (tabA w) wr) (fun i _ => 4 - (intOf i).toNat)
  case atStart => exact ⟨0, by omega, rfl, Below.refl _ _⟩
  case round =>
    obtain ⟨k, hk, rfl, hB⟩ := hrel
    have hzr := hB.size
    rw [tabA_size] at hzr
    have hz1 : w.heap.size + 1 + 1 + 1 + 1 < wr.heap.size := by omega
    have HB := Lib.hid hB
    clear hB
    rcases (show k = 0 ∨ k = 1 ∨ k = 2 ∨ k = 3 ∨ k = 4 by omega) with rfl | rfl | rfl | rfl | rfl
    · have c0 := (HB.out.cell (p := ⟨w.heap.size + 1 + 1 + 1 + 1, 0, none⟩) (by simp)).trans (tabA_c0 w)
      have c1 := (HB.out.cell (p := ⟨w.heap.size + 1 + 1 + 1 + 1, 1, none⟩) (by simp)).trans (tabA_c1 w)
      have hwant := Lib.hid (((tabA_w0 w).keep (by rw [tabA_size]; exact HB.out)).alloc (.cells #[.string ⟨#[97, 10, 98, 10]⟩, .slice (some ⟨w.heap.size, 0, none⟩) 2 2] 49))
      go_wp2_with fail
      refine (lines_c ⟨#[97, 10, 98, 10]⟩ [[97], [98]] 0 0 (by decide) (by kernel_rfl) (by kernel_rfl) (by kernel_rfl) _ ?hm0).mono ?_
      case hm0 => exact ((HM.out.keep ((tabA_below w).trans (HB.out.mono (by omega)))).alloc _)
      rintro e V ⟨v, rfl, hv, hV⟩
      have d1 : V.cell? ⟨wr.heap.size, 1, none⟩ = some (.slice (some ⟨w.heap.size, 0, none⟩) 2 2) := (hV.cell (p := ⟨wr.heap.size, 1, none⟩) (by simp)).trans ((World.cell?_alloc_at _ _ _ _ rfl).trans rfl)
      have HV := Lib.hid hV
      have HW := Lib.hid (hwant.out.keep hV)
      have hzV : wr.heap.size < V.heap.size := by have := hV.size; simp at this; omega
      have Hv := Lib.hid hv
      clear hV hwant hv
      go_wp2_with fail
      refine (equal_is true Hv.out HW.out (by decide)).mono ?_
      rintro e V2 ⟨rfl, nq, rfl⟩
      go_wp2
      go_roundw
      case rel => exact ⟨1, by omega, rfl, below_drewN (HB.out.trans (((Below.refl _ wr).alloc (by omega) _).trans (HV.out.mono (by simp; omega)))) _⟩
      case measure => simp [intOf]
    · have c0 := (HB.out.cell (p := ⟨w.heap.size + 1 + 1 + 1 + 1, 2, none⟩) (by simp)).trans (tabA_c2 w)
      have c1 := (HB.out.cell (p := ⟨w.heap.size + 1 + 1 + 1 + 1, 3, none⟩) (by simp)).trans (tabA_c3 w)
      have hwant := Lib.hid (((tabA_w1 w).keep (by rw [tabA_size]; exact HB.out)).alloc (.cells #[.string ⟨#[97, 10, 10]⟩, .slice (some ⟨w.heap.size + 1, 0, none⟩) 2 2] 49))
      go_wp2_with fail
      refine (lines_c ⟨#[97, 10, 10]⟩ [[97], []] 0 0 (by decide) (by kernel_rfl) (by kernel_rfl) (by kernel_rfl) _ ?hm1).mono ?_
      case hm1 => exact ((HM.out.keep ((tabA_below w).trans (HB.out.mono (by omega)))).alloc _)
      rintro e V ⟨v, rfl, hv, hV⟩
      have d1 : V.cell? ⟨wr.heap.size, 1, none⟩ = some (.slice (some ⟨w.heap.size + 1, 0, none⟩) 2 2) := (hV.cell (p := ⟨wr.heap.size, 1, none⟩) (by simp)).trans ((World.cell?_alloc_at _ _ _ _ rfl).trans rfl)
      have HV := Lib.hid hV
      have HW := Lib.hid (hwant.out.keep hV)
      have hzV : wr.heap.size < V.heap.size := by have := hV.size; simp at this; omega
      have Hv := Lib.hid hv
      clear hV hwant hv
      go_wp2_with fail
      refine (equal_is true Hv.out HW.out (by decide)).mono ?_
      rintro e V2 ⟨rfl, nq, rfl⟩
      go_wp2
      go_roundw
      case rel => exact ⟨2, by omega, rfl, below_drewN (HB.out.trans (((Below.refl _ wr).alloc (by omega) _).trans (HV.out.mono (by simp; omega)))) _⟩
      case measure => simp [intOf]
    · have c0 := (HB.out.cell (p := ⟨w.heap.size + 1 + 1 + 1 + 1, 4, none⟩) (by simp)).trans (tabA_c4 w)
      have c1 := (HB.out.cell (p := ⟨w.heap.size + 1 + 1 + 1 + 1, 5, none⟩) (by simp)).trans (tabA_c5 w)
      have hwant := Lib.hid (((tabA_w2 w).keep (by rw [tabA_size]; exact HB.out)).alloc (.cells #[.string ⟨#[]⟩, .slice (some ⟨w.heap.size + 1 + 1, 0, none⟩) 1 1] 49))
      go_wp2_with fail
      refine (lines_c ⟨#[]⟩ [[]] 0 0 (by decide) (by kernel_rfl) (by kernel_rfl) (by kernel_rfl) _ ?hm2).mono ?_
      case hm2 => exact ((HM.out.keep ((tabA_below w).trans (HB.out.mono (by omega)))).alloc _)
      rintro e V ⟨v, rfl, hv, hV⟩
      have d1 : V.cell? ⟨wr.heap.size, 1, none⟩ = some (.slice (some ⟨w.heap.size + 1 + 1, 0, none⟩) 1 1) := (hV.cell (p := ⟨wr.heap.size, 1, none⟩) (by simp)).trans ((World.cell?_alloc_at _ _ _ _ rfl).trans rfl)
      have HV := Lib.hid hV
      have HW := Lib.hid (hwant.out.keep hV)
      have hzV : wr.heap.size < V.heap.size := by have := hV.size; simp at this; omega
      have Hv := Lib.hid hv
      clear hV hwant hv
      go_wp2_with fail
      refine (equal_is true Hv.out HW.out (by decide)).mono ?_
      rintro e V2 ⟨rfl, nq, rfl⟩
      go_wp2
      go_roundw
      case rel => exact ⟨3, by omega, rfl, below_drewN (HB.out.trans (((Below.refl _ wr).alloc (by omega) _).trans (HV.out.mono (by simp; omega)))) _⟩
      case measure => simp [intOf]
    · have c0 := (HB.out.cell (p := ⟨w.heap.size + 1 + 1 + 1 + 1, 6, none⟩) (by simp)).trans (tabA_c6 w)
      have c1 := (HB.out.cell (p := ⟨w.heap.size + 1 + 1 + 1 + 1, 7, none⟩) (by simp)).trans (tabA_c7 w)
      have hwant := Lib.hid (((tabA_w3 w).keep (by rw [tabA_size]; exact HB.out)).alloc (.cells #[.string ⟨#[10]⟩, .slice (some ⟨w.heap.size + 1 + 1 + 1, 0, none⟩) 1 1] 49))
      go_wp2_with fail
      refine (lines_c ⟨#[10]⟩ [[]] 0 0 (by decide) (by kernel_rfl) (by kernel_rfl) (by kernel_rfl) _ ?hm3).mono ?_
      case hm3 => exact ((HM.out.keep ((tabA_below w).trans (HB.out.mono (by omega)))).alloc _)
      rintro e V ⟨v, rfl, hv, hV⟩
      have d1 : V.cell? ⟨wr.heap.size, 1, none⟩ = some (.slice (some ⟨w.heap.size + 1 + 1 + 1, 0, none⟩) 1 1) := (hV.cell (p := ⟨wr.heap.size, 1, none⟩) (by simp)).trans ((World.cell?_alloc_at _ _ _ _ rfl).trans rfl)
      have HV := Lib.hid hV
      have HW := Lib.hid (hwant.out.keep hV)
      have hzV : wr.heap.size < V.heap.size := by have := hV.size; simp at this; omega
      have Hv := Lib.hid hv
      clear hV hwant hv
      go_wp2_with fail
      refine (equal_is true Hv.out HW.out (by decide)).mono ?_
      rintro e V2 ⟨rfl, nq, rfl⟩
      go_wp2
      go_roundw
      case rel => exact ⟨4, by omega, rfl, below_drewN (HB.out.trans (((Below.refl _ wr).alloc (by omega) _).trans (HV.out.mono (by simp; omega)))) _⟩
      case measure => simp [intOf]
    · have hBw : Below w.heap.size w wr := (tabA_below w).trans (HB.out.mono (by omega))
      have HBw := Lib.hid hBw
      clear hBw HB hz1 hzr
      go_wp2_with fail
      obtain ⟨wo, rfl⟩ : ∃ wo : World, wo = wr := ⟨_, rfl⟩
      go_loopw [60] (fun i wr => ∃ k : Nat, k ≤ 6 ∧ i = .int .i64 k ∧ Below (wo.heap.size + 4) (tabB wo) wr) (fun i _ => 6 - (intOf i).toNat)
      case atStart => exact ⟨0, by omega, rfl, Below.refl _ _⟩
      case round =>
        obtain ⟨k, hk, rfl, hB⟩ := hrel
        have hzr := hB.size
        rw [tabB_size] at hzr
        have hz1 : wo.heap.size + 1 + 1 + 1 < wr.heap.size := by omega
        have HB := Lib.hid hB
        clear hB
        rcases (show k = 0 ∨ k = 1 ∨ k = 2 ∨ k = 3 ∨ k = 4 ∨ k = 5 ∨ k = 6 by omega) with rfl | rfl | rfl | rfl | rfl | rfl | rfl
        · have c0 := (HB.out.cell (p := ⟨wo.heap.size + 1 + 1 + 1, 0, none⟩) (by simp)).trans (tabB_c0 wo)
          have c1 := (HB.out.cell (p := ⟨wo.heap.size + 1 + 1 + 1, 1, none⟩) (by simp)).trans (tabB_c1 wo)
          have c2 := (HB.out.cell (p := ⟨wo.heap.size + 1 + 1 + 1, 2, none⟩) (by simp)).trans (tabB_c2 wo)
          have hwant := Lib.hid (((tabB_w0 wo).keep (by rw [tabB_size]; exact HB.out)).alloc (.cells #[.string ⟨#[82, 117, 108, 101, 32, 32, 88, 32, 49, 32, 35, 32, 121]⟩, .slice (some ⟨wo.heap.size, 0, none⟩) 3 3, .int .i64 0] 51))
          go_wp2_with fail
          refine (fields_c ⟨#[82, 117, 108, 101, 32, 32, 88, 32, 49, 32, 35, 32, 121]⟩ [[82, 117, 108, 101], [88], [49]] 0 (by decide) (by kernel_rfl) (by kernel_rfl) _).mono ?_
          rintro e V ⟨v, rfl, hv, hV⟩
          have d1 : V.cell? ⟨wr.heap.size, 1, none⟩ = some (.slice (some ⟨wo.heap.size, 0, none⟩) 3 3) := (hV.cell (p := ⟨wr.heap.size, 1, none⟩) (by simp)).trans ((World.cell?_alloc_at _ _ _ _ rfl).trans rfl)
          have d2 : V.cell? ⟨wr.heap.size, 2, none⟩ = some (.int .i64 0) := (hV.cell (p := ⟨wr.heap.size, 2, none⟩) (by simp)).trans ((World.cell?_alloc_at _ _ _ _ rfl).trans rfl)
          have HV := Lib.hid hV
          have HW := Lib.hid (hwant.out.keep hV)
          have hzV : wr.heap.size < V.heap.size := by have := hV.size; simp at this; omega
          have Hv := Lib.hid hv
          clear hV hwant hv
          go_wp2_with fail
          refine (equal_is true Hv.out HW.out (by decide)).mono ?_
          rintro e V2 ⟨rfl, nq, rfl⟩
          go_wp2
          go_roundw
          case rel => ((repeat apply Exists.intro); exact ⟨⟨1, by omega, rfl, below_drewN (HB.out.trans (((Below.refl _ wr).alloc (by omega) _).trans (HV.out.mono (by simp; omega)))) _⟩, rfl⟩)
          case measure => simp [intOf]
        · have c0 := (HB.out.cell (p := ⟨wo.heap.size + 1 + 1 + 1, 3, none⟩) (by simp)).trans (tabB_c3 wo)
          have c1 := (HB.out.cell (p := ⟨wo.heap.size + 1 + 1 + 1, 4, none⟩) (by simp)).trans (tabB_c4 wo)
          have c2 := (HB.out.cell (p := ⟨wo.heap.size + 1 + 1 + 1, 5, none⟩) (by simp)).trans (tabB_c5 wo)
          have hwant := Lib.hid (((tabB_w1 wo).keep (by rw [tabB_size]; exact HB.out)).alloc (.cells #[.string ⟨#[34, 97, 32, 98, 34, 99, 32, 34, 34]⟩, .slice (some ⟨wo.heap.size + 1, 0, none⟩) 2 2, .int .i64 0] 51))
          go_wp2_with fail
          refine (fields_c ⟨#[34, 97, 32, 98, 34, 99, 32, 34, 34]⟩ [[97, 32, 98, 99], []] 0 (by decide) (by kernel_rfl) (by kernel_rfl) _).mono ?_
          rintro e V ⟨v, rfl, hv, hV⟩
          have d1 : V.cell? ⟨wr.heap.size, 1, none⟩ = some (.slice (some ⟨wo.heap.size + 1, 0, none⟩) 2 2) := (hV.cell (p := ⟨wr.heap.size, 1, none⟩) (by simp)).trans ((World.cell?_alloc_at _ _ _ _ rfl).trans rfl)
          have d2 : V.cell? ⟨wr.heap.size, 2, none⟩ = some (.int .i64 0) := (hV.cell (p := ⟨wr.heap.size, 2, none⟩) (by simp)).trans ((World.cell?_alloc_at _ _ _ _ rfl).trans rfl)
          have HV := Lib.hid hV
          have HW := Lib.hid (hwant.out.keep hV)
          have hzV : wr.heap.size < V.heap.size := by have := hV.size; simp at this; omega
          have Hv := Lib.hid hv
          clear hV hwant hv
          go_wp2_with fail
          refine (equal_is true Hv.out HW.out (by decide)).mono ?_
          rintro e V2 ⟨rfl, nq, rfl⟩
          go_wp2
          go_roundw
          case rel => ((repeat apply Exists.intro); exact ⟨⟨2, by omega, rfl, below_drewN (HB.out.trans (((Below.refl _ wr).alloc (by omega) _).trans (HV.out.mono (by simp; omega)))) _⟩, rfl⟩)
          case measure => simp [intOf]
        · have c0 := (HB.out.cell (p := ⟨wo.heap.size + 1 + 1 + 1, 6, none⟩) (by simp)).trans (tabB_c6 wo)
          have c1 := (HB.out.cell (p := ⟨wo.heap.size + 1 + 1 + 1, 7, none⟩) (by simp)).trans (tabB_c7 wo)
          have c2 := (HB.out.cell (p := ⟨wo.heap.size + 1 + 1 + 1, 8, none⟩) (by simp)).trans (tabB_c8 wo)
          have hwant := Lib.hid (((tabB_w2 wo).keep (by rw [tabB_size]; exact HB.out)).alloc (.cells #[.string ⟨#[32, 32, 35, 32, 120]⟩, .slice none 0 0, .int .i64 0] 51))
          go_wp2_with fail
          refine (fields_c ⟨#[32, 32, 35, 32, 120]⟩ [] 0 (by decide) (by kernel_rfl) (by kernel_rfl) _).mono ?_
          rintro e V ⟨v, rfl, hv, hV⟩
          have d1 : V.cell? ⟨wr.heap.size, 1, none⟩ = some (.slice none 0 0) := (hV.cell (p := ⟨wr.heap.size, 1, none⟩) (by simp)).trans ((World.cell?_alloc_at _ _ _ _ rfl).trans rfl)
          have d2 : V.cell? ⟨wr.heap.size, 2, none⟩ = some (.int .i64 0) := (hV.cell (p := ⟨wr.heap.size, 2, none⟩) (by simp)).trans ((World.cell?_alloc_at _ _ _ _ rfl).trans rfl)
          have HV := Lib.hid hV
          have HW := Lib.hid (hwant.out.keep hV)
          have hzV : wr.heap.size < V.heap.size := by have := hV.size; simp at this; omega
          have Hv := Lib.hid hv
          clear hV hwant hv
          go_wp2_with fail
          refine (equal_is true Hv.out HW.out (by decide)).mono ?_
          rintro e V2 ⟨rfl, nq, rfl⟩
          go_wp2
          go_roundw
          case rel => ((repeat apply Exists.intro); exact ⟨⟨3, by omega, rfl, below_drewN (HB.out.trans (((Below.refl _ wr).alloc (by omega) _).trans (HV.out.mono (by simp; omega)))) _⟩, rfl⟩)
          case measure => simp [intOf]
        · have c0 := (HB.out.cell (p := ⟨wo.heap.size + 1 + 1 + 1, 9, none⟩) (by simp)).trans (tabB_c9 wo)
          have c1 := (HB.out.cell (p := ⟨wo.heap.size + 1 + 1 + 1, 10, none⟩) (by simp)).trans (tabB_c10 wo)
          have c2 := (HB.out.cell (p := ⟨wo.heap.size + 1 + 1 + 1, 11, none⟩) (by simp)).trans (tabB_c11 wo)
          have hwant := Lib.hid (((tabB_w3 wo).keep (by rw [tabB_size]; exact HB.out)).alloc (.cells #[.string ⟨#[97, 32, 34, 98]⟩, .slice none 0 0, .int .i64 5] 51))
          go_wp2_with fail
          refine (fields_c ⟨#[97, 32, 34, 98]⟩ [] 5 (by decide) (by kernel_rfl) (by kernel_rfl) _).mono ?_
          rintro e V ⟨v, rfl, hv, hV⟩
          have d1 : V.cell? ⟨wr.heap.size, 1, none⟩ = some (.slice none 0 0) := (hV.cell (p := ⟨wr.heap.size, 1, none⟩) (by simp)).trans ((World.cell?_alloc_at _ _ _ _ rfl).trans rfl)
          have d2 : V.cell? ⟨wr.heap.size, 2, none⟩ = some (.int .i64 5) := (hV.cell (p := ⟨wr.heap.size, 2, none⟩) (by simp)).trans ((World.cell?_alloc_at _ _ _ _ rfl).trans rfl)
          have HV := Lib.hid hV
          have HW := Lib.hid (hwant.out.keep hV)
          have hzV : wr.heap.size < V.heap.size := by have := hV.size; simp at this; omega
          have Hv := Lib.hid hv
          clear hV hwant hv
          go_wp2_with fail
          refine (equal_is true Hv.out HW.out (by decide)).mono ?_
          rintro e V2 ⟨rfl, nq, rfl⟩
          go_wp2
          go_roundw
          case rel => ((repeat apply Exists.intro); exact ⟨⟨4, by omega, rfl, below_drewN (HB.out.trans (((Below.refl _ wr).alloc (by omega) _).trans (HV.out.mono (by simp; omega)))) _⟩, rfl⟩)
          case measure => simp [intOf]
        · have c0 := (HB.out.cell (p := ⟨wo.heap.size + 1 + 1 + 1, 12, none⟩) (by simp)).trans (tabB_c12 wo)
          have c1 := (HB.out.cell (p := ⟨wo.heap.size + 1 + 1 + 1, 13, none⟩) (by simp)).trans (tabB_c13 wo)
          have c2 := (HB.out.cell (p := ⟨wo.heap.size + 1 + 1 + 1, 14, none⟩) (by simp)).trans (tabB_c14 wo)
          have hwant := Lib.hid (((tabB_w4 wo).keep (by rw [tabB_size]; exact HB.out)).alloc (.cells #[.string ⟨#[97, 7]⟩, .slice none 0 0, .int .i64 5] 51))
          go_wp2_with fail
          refine (fields_c ⟨#[97, 7]⟩ [] 5 (by decide) (by kernel_rfl) (by kernel_rfl) _).mono ?_
          rintro e V ⟨v, rfl, hv, hV⟩
          have d1 : V.cell? ⟨wr.heap.size, 1, none⟩ = some (.slice none 0 0) := (hV.cell (p := ⟨wr.heap.size, 1, none⟩) (by simp)).trans ((World.cell?_alloc_at _ _ _ _ rfl).trans rfl)
          have d2 : V.cell? ⟨wr.heap.size, 2, none⟩ = some (.int .i64 5) := (hV.cell (p := ⟨wr.heap.size, 2, none⟩) (by simp)).trans ((World.cell?_alloc_at _ _ _ _ rfl).trans rfl)
          have HV := Lib.hid hV
          have HW := Lib.hid (hwant.out.keep hV)
          have hzV : wr.heap.size < V.heap.size := by have := hV.size; simp at this; omega
          have Hv := Lib.hid hv
          clear hV hwant hv
          go_wp2_with fail
          refine (equal_is true Hv.out HW.out (by decide)).mono ?_
          rintro e V2 ⟨rfl, nq, rfl⟩
          go_wp2
          go_roundw
          case rel => ((repeat apply Exists.intro); exact ⟨⟨5, by omega, rfl, below_drewN (HB.out.trans (((Below.refl _ wr).alloc (by omega) _).trans (HV.out.mono (by simp; omega)))) _⟩, rfl⟩)
          case measure => simp [intOf]
        · have c0 := (HB.out.cell (p := ⟨wo.heap.size + 1 + 1 + 1, 15, none⟩) (by simp)).trans (tabB_c15 wo)
          have c1 := (HB.out.cell (p := ⟨wo.heap.size + 1 + 1 + 1, 16, none⟩) (by simp)).trans (tabB_c16 wo)
          have c2 := (HB.out.cell (p := ⟨wo.heap.size + 1 + 1 + 1, 17, none⟩) (by simp)).trans (tabB_c17 wo)
          have hwant := Lib.hid (((tabB_w5 wo).keep (by rw [tabB_size]; exact HB.out)).alloc (.cells #[.string ⟨#[97, 35, 7]⟩, .slice (some ⟨wo.heap.size + 1 + 1, 0, none⟩) 1 1, .int .i64 0] 51))
          go_wp2_with fail
          refine (fields_c ⟨#[97, 35, 7]⟩ [[97]] 0 (by decide) (by kernel_rfl) (by kernel_rfl) _).mono ?_
          rintro e V ⟨v, rfl, hv, hV⟩
          have d1 : V.cell? ⟨wr.heap.size, 1, none⟩ = some (.slice (some ⟨wo.heap.size + 1 + 1, 0, none⟩) 1 1) := (hV.cell (p := ⟨wr.heap.size, 1, none⟩) (by simp)).trans ((World.cell?_alloc_at _ _ _ _ rfl).trans rfl)
          have d2 : V.cell? ⟨wr.heap.size, 2, none⟩ = some (.int .i64 0) := (hV.cell (p := ⟨wr.heap.size, 2, none⟩) (by simp)).trans ((World.cell?_alloc_at _ _ _ _ rfl).trans rfl)
          have HV := Lib.hid hV
          have HW := Lib.hid (hwant.out.keep hV)
          have hzV : wr.heap.size < V.heap.size := by have := hV.size; simp at this; omega
          have Hv := Lib.hid hv
          clear hV hwant hv
          go_wp2_with fail
          refine (equal_is true Hv.out HW.out (by decide)).mono ?_
          rintro e V2 ⟨rfl, nq, rfl⟩
          go_wp2
          go_roundw
          case rel => ((repeat apply Exists.intro); exact ⟨⟨6, by omega, rfl, below_drewN (HB.out.trans (((Below.refl _ wr).alloc (by omega) _).trans (HV.out.mono (by simp; omega)))) _⟩, rfl⟩)
          case measure => simp [intOf]
        · have HB3 := Lib.hid (HBw.out.trans (((tabB_below wo).mono (HBw.out.size)).trans (HB.out.mono (by have := HBw.out.size; omega))))
          clear HB HBw
          go_wp2_with fail
          have h1 : StrsV (wr.alloc (.cells #[.string ⟨#[97]⟩, .string ⟨#[98, 32, 99]⟩, .string ⟨#[]⟩, .string ⟨#[120, 35]⟩] 9)) (.slice (some ⟨wr.heap.size, 0, none⟩) 4 4) [[97], [98, 32, 99], [], [120, 35]] := StrsV.of_block (L := [[97], [98, 32, 99], [], [120, 35]]) (heap_alloc_at rfl) (Nat.le_refl _) (by unfold maxLen; decide) rfl
          refine (join_c [[97], [98, 32, 99], [], [120, 35]] ⟨#[97, 32, 34, 98, 32, 99, 34, 32, 34, 34, 32, 34, 120, 35, 34]⟩ 0 _ _ h1 (by decide) (by decide) (by kernel_rfl) (by kernel_rfl)).mono ?_
          rintro e V1 ⟨rfl, k1⟩
          have B1 := Lib.hid (HB3.out.trans (((Below.refl _ wr).alloc (Nat.le_refl _) _).mono HB3.out.size |>.trans (k1.mono (by have := HB3.out.size; simp; omega))))
          clear k1 h1
          go_wp2_with fail
          have h2 : StrsV (V1.alloc (.cells #[.string ⟨#[97, 34]⟩] 9)) (.slice (some ⟨V1.heap.size, 0, none⟩) 1 1) [[97, 34]] := StrsV.of_block (L := [[97, 34]]) (heap_alloc_at rfl) (Nat.le_refl _) (by unfold maxLen; decide) rfl
          refine (join_c [[97, 34]] ⟨#[]⟩ 2 _ _ h2 (by decide) (by decide) (by kernel_rfl) (by kernel_rfl)).mono ?_
          rintro e V2 ⟨rfl, k2⟩
          have B2 := Lib.hid (B1.out.trans (((Below.refl _ V1).alloc (Nat.le_refl _) _).mono B1.out.size |>.trans (k2.mono (by have := B1.out.size; simp; omega))))
          clear k2 h2
          go_wp2
          go_ret
          exact ⟨rfl, B2.out⟩
end Go.Proofs.YtjdckmhlgcjdgaaDoor.Lx
