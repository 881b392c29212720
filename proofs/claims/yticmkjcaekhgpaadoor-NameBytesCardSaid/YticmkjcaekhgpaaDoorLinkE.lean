import Derived.Test.YticmkjcaekhgpaaDoorLinkD
namespace Go.Proofs.YticmkjcaekhgpaaDoor
open Go.RowKit
/-- the world behind the rows of the second table -/
def tib (w : World) : World := (((w.alloc (.cells #[.string ⟨#[69, 105, 114, 101]⟩] 9)).alloc (.cells #[.string ⟨#[57]⟩] 9)).alloc (.cells #[.slice (some ⟨w.heap.size, 0, none⟩) 1 1, .string ⟨#[69, 105, 114, 101]⟩, .int .i64 0, .slice (some ⟨w.heap.size + 1, 0, none⟩) 1 1, .string ⟨#[]⟩, .int .i64 9, .slice none 0 0, .string ⟨#[]⟩, .int .i64 5] 62))
theorem tib_size (w : World) : (tib w).heap.size = w.heap.size + 3 := by simp [tib]
theorem tib_below (w : World) : Below w.heap.size w (tib w) := (((Below.refl _ w).alloc (Nat.le_refl _) _).alloc (by simp) _).alloc (by simp; omega) _
theorem tib_strs0 (w : World) : (tib w).heap[w.heap.size]? = some (.cells #[.string ⟨#[69, 105, 114, 101]⟩] 9) := by
  unfold tib
  rw [Below.heap_alloc _ _ _ (by simp; try omega), Below.heap_alloc _ _ _ (by simp; try omega), heap_alloc_at (by simp)]
theorem tib_strs1 (w : World) : (tib w).heap[w.heap.size + 1]? = some (.cells #[.string ⟨#[57]⟩] 9) := by
  unfold tib
  rw [Below.heap_alloc _ _ _ (by simp; try omega), heap_alloc_at (by simp)]
theorem tib_c0 (w : World) : (tib w).cell? ⟨w.heap.size + 1 + 1, 0, none⟩ = some (.slice (some ⟨w.heap.size, 0, none⟩) 1 1) := (World.cell?_alloc_at _ _ _ _ (by simp)).trans rfl
theorem tib_c1 (w : World) : (tib w).cell? ⟨w.heap.size + 1 + 1, 1, none⟩ = some (.string ⟨#[69, 105, 114, 101]⟩) := (World.cell?_alloc_at _ _ _ _ (by simp)).trans rfl
theorem tib_c2 (w : World) : (tib w).cell? ⟨w.heap.size + 1 + 1, 2, none⟩ = some (.int .i64 0) := (World.cell?_alloc_at _ _ _ _ (by simp)).trans rfl
theorem tib_c3 (w : World) : (tib w).cell? ⟨w.heap.size + 1 + 1, 3, none⟩ = some (.slice (some ⟨w.heap.size + 1, 0, none⟩) 1 1) := (World.cell?_alloc_at _ _ _ _ (by simp)).trans rfl
theorem tib_c4 (w : World) : (tib w).cell? ⟨w.heap.size + 1 + 1, 4, none⟩ = some (.string ⟨#[]⟩) := (World.cell?_alloc_at _ _ _ _ (by simp)).trans rfl
theorem tib_c5 (w : World) : (tib w).cell? ⟨w.heap.size + 1 + 1, 5, none⟩ = some (.int .i64 9) := (World.cell?_alloc_at _ _ _ _ (by simp)).trans rfl
theorem tib_c6 (w : World) : (tib w).cell? ⟨w.heap.size + 1 + 1, 6, none⟩ = some (.slice none 0 0) := (World.cell?_alloc_at _ _ _ _ (by simp)).trans rfl
theorem tib_c7 (w : World) : (tib w).cell? ⟨w.heap.size + 1 + 1, 7, none⟩ = some (.string ⟨#[]⟩) := (World.cell?_alloc_at _ _ _ _ (by simp)).trans rfl
theorem tib_c8 (w : World) : (tib w).cell? ⟨w.heap.size + 1 + 1, 8, none⟩ = some (.int .i64 5) := (World.cell?_alloc_at _ _ _ _ (by simp)).trans rfl

set_option maxHeartbeats 1000000 in
theorem rownd12_0 (w wr : World) (hB : Below (w.heap.size + 3) (tib w) wr) (V0 : World) (hV0 : wr.alloc (.cells #[.slice (some ⟨w.heap.size, 0, none⟩) 1 1, .string ⟨#[69, 105, 114, 101]⟩, .int .i64 0] 62) = V0) :
    Calls Tryd.prog 27 #[.slice (some ⟨w.heap.size, 0, none⟩) 1 1] V0 fun e V => e = .returned (.tuple #[.string ⟨#[69, 105, 114, 101]⟩, .int .i64 0]) ∧ Below V0.heap.size V0 V :=
  shift27_is [⟨#[69, 105, 114, 101]⟩] ⟨#[69, 105, 114, 101]⟩ 0 (by kernel_rfl) (by kernel_rfl) 1 rfl (by decide) _ 1 V0
    (strs_lit [⟨#[69, 105, 114, 101]⟩] (cs := #[.string ⟨#[69, 105, 114, 101]⟩]) (by rw [← hV0, Below.heap_alloc _ _ _ (by have := hB.size; rw [tib_size] at this; omega), hB.block _ (by omega)]; exact tib_strs0 w) rfl (by decide))

set_option maxHeartbeats 1000000 in
theorem rownd12_1 (w wr : World) (hB : Below (w.heap.size + 3) (tib w) wr) (V0 : World) (hV0 : wr.alloc (.cells #[.slice (some ⟨w.heap.size + 1, 0, none⟩) 1 1, .string ⟨#[]⟩, .int .i64 9] 62) = V0) :
    Calls Tryd.prog 27 #[.slice (some ⟨w.heap.size + 1, 0, none⟩) 1 1] V0 fun e V => e = .returned (.tuple #[.string ⟨#[]⟩, .int .i64 9]) ∧ Below V0.heap.size V0 V :=
  shift27_is [⟨#[57]⟩] ⟨#[]⟩ 9 (by kernel_rfl) (by kernel_rfl) 1 rfl (by decide) _ 1 V0
    (strs_lit [⟨#[57]⟩] (cs := #[.string ⟨#[57]⟩]) (by rw [← hV0, Below.heap_alloc _ _ _ (by have := hB.size; rw [tib_size] at this; omega), hB.block _ (by omega)]; exact tib_strs1 w) rfl (by decide))

set_option maxHeartbeats 1000000 in
theorem rownd12_2 (w wr : World) (_hB : Below (w.heap.size + 3) (tib w) wr) (V0 : World) (_hV0 : wr.alloc (.cells #[.slice none 0 0, .string ⟨#[]⟩, .int .i64 5] 62) = V0) :
    Calls Tryd.prog 27 #[.slice none 0 0] V0 fun e V => e = .returned (.tuple #[.string ⟨#[]⟩, .int .i64 5]) ∧ Below V0.heap.size V0 V :=
  shift27_is [] ⟨#[]⟩ 5 (by kernel_rfl) (by kernel_rfl) 0 rfl (by decide) _ 0 V0
    (.inl rfl)

theorem print29_is (t n o : ByteArray) (er : Int) (ht : t.size ≤ 1000) (hn : n.size ≤ 1000) (ho : bytesOf (lineL [76, 105, 110, 107] zoneOk [t, n]) = o) (he : lineE zoneOk [t, n] = er) (W : World) :
    Calls Tryd.prog 29 #[.agg #[.string t, .string n]] W fun e w' => e = .returned (.tuple #[.string o, .int .i64 er]) ∧ Below W.heap.size W w' := by
  subst ho he
  exact print29 t n (by unfold maxLen; omega) (by unfold maxLen; omega) W
theorem printShift31_is (s o : ByteArray) (er : Int) (hs : s.size ≤ 1000) (ho : bytesOf (lineL [83, 104, 105, 102, 116] setOk [s]) = o) (he : lineE setOk [s] = er) (W : World) :
    Calls Tryd.prog 31 #[.string s] W fun e w' => e = .returned (.tuple #[.string o, .int .i64 er]) ∧ Below W.heap.size W w' := by
  subst ho he
  exact printShift31 s (by unfold maxLen; omega) W

set_option maxHeartbeats 16000000 in
set_option maxRecDepth 100000 in
theorem works24 (w : World) : Calls Tryd.prog 24 #[] w fun e w' => e = .returned (.bool true) ∧ Below w.heap.size w w' := by
  go_enter Tryd.func24, Tryd.ntmps24
  go_wp2_with fail
  go_loopw [34] (fun i wr => ∃ k : Nat, k ≤ 5 ∧ i = .int .i64 k ∧ Below (w.heap.size + 6) (tabW w) wr) (fun i _ => 5 - (intOf i).toNat)
  case atStart => exact ⟨0, by omega, rfl, Below.refl _ _⟩
  case round =>
    obtain ⟨k, hk, rfl, hB⟩ := hrel
    have hzr := hB.size
    rw [tabW_size] at hzr
    have hz1 : w.heap.size + 1 + 1 + 1 + 1 + 1 < wr.heap.size := by omega
    have HB := Lib.hid hB
    clear hB
    rcases (show k = 0 ∨ k = 1 ∨ k = 2 ∨ k = 3 ∨ k = 4 ∨ k = 5 by omega) with rfl | rfl | rfl | rfl | rfl | rfl
    · have c0 := (HB.out.cell (p := ⟨w.heap.size + 1 + 1 + 1 + 1 + 1, 0, none⟩) (by simp)).trans (tabW_c0 w)
      have c1 := (HB.out.cell (p := ⟨w.heap.size + 1 + 1 + 1 + 1 + 1, 1, none⟩) (by simp)).trans (tabW_c1 w)
      have c2 := (HB.out.cell (p := ⟨w.heap.size + 1 + 1 + 1 + 1 + 1, 2, none⟩) (by simp)).trans (tabW_c2 w)
      have c3 := (HB.out.cell (p := ⟨w.heap.size + 1 + 1 + 1 + 1 + 1, 3, none⟩) (by simp)).trans (tabW_c3 w)
      go_wp2_with (go_at_call 25; refine (round12_0 w wr HB.out _ rfl).mono ?_; rintro e V ⟨rfl, hV⟩; have d0 : V.cell? ⟨wr.heap.size, 0, none⟩ = some (.slice (some ⟨w.heap.size, 0, none⟩) 2 2) := (hV.cell (p := ⟨wr.heap.size, 0, none⟩) (by simp)).trans ((World.cell?_alloc_at _ _ _ _ rfl).trans rfl); have d1 : V.cell? ⟨wr.heap.size, 1, none⟩ = some (.string ⟨#[69, 117, 114, 111, 112, 101, 47, 68, 117, 98, 108, 105, 110]⟩) := (hV.cell (p := ⟨wr.heap.size, 1, none⟩) (by simp)).trans ((World.cell?_alloc_at _ _ _ _ rfl).trans rfl); have d2 : V.cell? ⟨wr.heap.size, 2, none⟩ = some (.string ⟨#[69, 105, 114, 101]⟩) := (hV.cell (p := ⟨wr.heap.size, 2, none⟩) (by simp)).trans ((World.cell?_alloc_at _ _ _ _ rfl).trans rfl); have d3 : V.cell? ⟨wr.heap.size, 3, none⟩ = some (.int .i64 0) := (hV.cell (p := ⟨wr.heap.size, 3, none⟩) (by simp)).trans ((World.cell?_alloc_at _ _ _ _ rfl).trans rfl); have hzv : wr.heap.size < V.heap.size := (by have := hV.size; simp at this; omega); have HV := Lib.hid hV; clear hV)
      go_roundw
      case rel => exact ⟨1, by omega, rfl, (HB.out.trans (((Below.refl _ wr).alloc (by omega) _).trans (HV.out.mono (by simp; omega)))).alloc (by omega) _⟩
      case measure => simp [intOf]
    · have c0 := (HB.out.cell (p := ⟨w.heap.size + 1 + 1 + 1 + 1 + 1, 4, none⟩) (by simp)).trans (tabW_c4 w)
      have c1 := (HB.out.cell (p := ⟨w.heap.size + 1 + 1 + 1 + 1 + 1, 5, none⟩) (by simp)).trans (tabW_c5 w)
      have c2 := (HB.out.cell (p := ⟨w.heap.size + 1 + 1 + 1 + 1 + 1, 6, none⟩) (by simp)).trans (tabW_c6 w)
      have c3 := (HB.out.cell (p := ⟨w.heap.size + 1 + 1 + 1 + 1 + 1, 7, none⟩) (by simp)).trans (tabW_c7 w)
      go_wp2_with (go_at_call 25; refine (round12_1 w wr HB.out _ rfl).mono ?_; rintro e V ⟨rfl, hV⟩; have d0 : V.cell? ⟨wr.heap.size, 0, none⟩ = some (.slice (some ⟨w.heap.size + 1, 0, none⟩) 1 1) := (hV.cell (p := ⟨wr.heap.size, 0, none⟩) (by simp)).trans ((World.cell?_alloc_at _ _ _ _ rfl).trans rfl); have d1 : V.cell? ⟨wr.heap.size, 1, none⟩ = some (.string ⟨#[]⟩) := (hV.cell (p := ⟨wr.heap.size, 1, none⟩) (by simp)).trans ((World.cell?_alloc_at _ _ _ _ rfl).trans rfl); have d2 : V.cell? ⟨wr.heap.size, 2, none⟩ = some (.string ⟨#[]⟩) := (hV.cell (p := ⟨wr.heap.size, 2, none⟩) (by simp)).trans ((World.cell?_alloc_at _ _ _ _ rfl).trans rfl); have d3 : V.cell? ⟨wr.heap.size, 3, none⟩ = some (.int .i64 5) := (hV.cell (p := ⟨wr.heap.size, 3, none⟩) (by simp)).trans ((World.cell?_alloc_at _ _ _ _ rfl).trans rfl); have hzv : wr.heap.size < V.heap.size := (by have := hV.size; simp at this; omega); have HV := Lib.hid hV; clear hV)
      go_roundw
      case rel => exact ⟨2, by omega, rfl, (HB.out.trans (((Below.refl _ wr).alloc (by omega) _).trans (HV.out.mono (by simp; omega)))).alloc (by omega) _⟩
      case measure => simp [intOf]
    · have c0 := (HB.out.cell (p := ⟨w.heap.size + 1 + 1 + 1 + 1 + 1, 8, none⟩) (by simp)).trans (tabW_c8 w)
      have c1 := (HB.out.cell (p := ⟨w.heap.size + 1 + 1 + 1 + 1 + 1, 9, none⟩) (by simp)).trans (tabW_c9 w)
      have c2 := (HB.out.cell (p := ⟨w.heap.size + 1 + 1 + 1 + 1 + 1, 10, none⟩) (by simp)).trans (tabW_c10 w)
      have c3 := (HB.out.cell (p := ⟨w.heap.size + 1 + 1 + 1 + 1 + 1, 11, none⟩) (by simp)).trans (tabW_c11 w)
      go_wp2_with (go_at_call 25; refine (round12_2 w wr HB.out _ rfl).mono ?_; rintro e V ⟨rfl, hV⟩; have d0 : V.cell? ⟨wr.heap.size, 0, none⟩ = some (.slice (some ⟨w.heap.size + 1 + 1, 0, none⟩) 3 3) := (hV.cell (p := ⟨wr.heap.size, 0, none⟩) (by simp)).trans ((World.cell?_alloc_at _ _ _ _ rfl).trans rfl); have d1 : V.cell? ⟨wr.heap.size, 1, none⟩ = some (.string ⟨#[]⟩) := (hV.cell (p := ⟨wr.heap.size, 1, none⟩) (by simp)).trans ((World.cell?_alloc_at _ _ _ _ rfl).trans rfl); have d2 : V.cell? ⟨wr.heap.size, 2, none⟩ = some (.string ⟨#[]⟩) := (hV.cell (p := ⟨wr.heap.size, 2, none⟩) (by simp)).trans ((World.cell?_alloc_at _ _ _ _ rfl).trans rfl); have d3 : V.cell? ⟨wr.heap.size, 3, none⟩ = some (.int .i64 5) := (hV.cell (p := ⟨wr.heap.size, 3, none⟩) (by simp)).trans ((World.cell?_alloc_at _ _ _ _ rfl).trans rfl); have hzv : wr.heap.size < V.heap.size := (by have := hV.size; simp at this; omega); have HV := Lib.hid hV; clear hV)
      go_roundw
      case rel => exact ⟨3, by omega, rfl, (HB.out.trans (((Below.refl _ wr).alloc (by omega) _).trans (HV.out.mono (by simp; omega)))).alloc (by omega) _⟩
      case measure => simp [intOf]
    · have c0 := (HB.out.cell (p := ⟨w.heap.size + 1 + 1 + 1 + 1 + 1, 12, none⟩) (by simp)).trans (tabW_c12 w)
      have c1 := (HB.out.cell (p := ⟨w.heap.size + 1 + 1 + 1 + 1 + 1, 13, none⟩) (by simp)).trans (tabW_c13 w)
      have c2 := (HB.out.cell (p := ⟨w.heap.size + 1 + 1 + 1 + 1 + 1, 14, none⟩) (by simp)).trans (tabW_c14 w)
      have c3 := (HB.out.cell (p := ⟨w.heap.size + 1 + 1 + 1 + 1 + 1, 15, none⟩) (by simp)).trans (tabW_c15 w)
      go_wp2_with (go_at_call 25; refine (round12_3 w wr HB.out _ rfl).mono ?_; rintro e V ⟨rfl, hV⟩; have d0 : V.cell? ⟨wr.heap.size, 0, none⟩ = some (.slice (some ⟨w.heap.size + 1 + 1 + 1, 0, none⟩) 2 2) := (hV.cell (p := ⟨wr.heap.size, 0, none⟩) (by simp)).trans ((World.cell?_alloc_at _ _ _ _ rfl).trans rfl); have d1 : V.cell? ⟨wr.heap.size, 1, none⟩ = some (.string ⟨#[]⟩) := (hV.cell (p := ⟨wr.heap.size, 1, none⟩) (by simp)).trans ((World.cell?_alloc_at _ _ _ _ rfl).trans rfl); have d2 : V.cell? ⟨wr.heap.size, 2, none⟩ = some (.string ⟨#[]⟩) := (hV.cell (p := ⟨wr.heap.size, 2, none⟩) (by simp)).trans ((World.cell?_alloc_at _ _ _ _ rfl).trans rfl); have d3 : V.cell? ⟨wr.heap.size, 3, none⟩ = some (.int .i64 9) := (hV.cell (p := ⟨wr.heap.size, 3, none⟩) (by simp)).trans ((World.cell?_alloc_at _ _ _ _ rfl).trans rfl); have hzv : wr.heap.size < V.heap.size := (by have := hV.size; simp at this; omega); have HV := Lib.hid hV; clear hV)
      go_roundw
      case rel => exact ⟨4, by omega, rfl, (HB.out.trans (((Below.refl _ wr).alloc (by omega) _).trans (HV.out.mono (by simp; omega)))).alloc (by omega) _⟩
      case measure => simp [intOf]
    · have c0 := (HB.out.cell (p := ⟨w.heap.size + 1 + 1 + 1 + 1 + 1, 16, none⟩) (by simp)).trans (tabW_c16 w)
      have c1 := (HB.out.cell (p := ⟨w.heap.size + 1 + 1 + 1 + 1 + 1, 17, none⟩) (by simp)).trans (tabW_c17 w)
      have c2 := (HB.out.cell (p := ⟨w.heap.size + 1 + 1 + 1 + 1 + 1, 18, none⟩) (by simp)).trans (tabW_c18 w)
      have c3 := (HB.out.cell (p := ⟨w.heap.size + 1 + 1 + 1 + 1 + 1, 19, none⟩) (by simp)).trans (tabW_c19 w)
      go_wp2_with (go_at_call 25; refine (round12_4 w wr HB.out _ rfl).mono ?_; rintro e V ⟨rfl, hV⟩; have d0 : V.cell? ⟨wr.heap.size, 0, none⟩ = some (.slice (some ⟨w.heap.size + 1 + 1 + 1 + 1, 0, none⟩) 2 2) := (hV.cell (p := ⟨wr.heap.size, 0, none⟩) (by simp)).trans ((World.cell?_alloc_at _ _ _ _ rfl).trans rfl); have d1 : V.cell? ⟨wr.heap.size, 1, none⟩ = some (.string ⟨#[]⟩) := (hV.cell (p := ⟨wr.heap.size, 1, none⟩) (by simp)).trans ((World.cell?_alloc_at _ _ _ _ rfl).trans rfl); have d2 : V.cell? ⟨wr.heap.size, 2, none⟩ = some (.string ⟨#[]⟩) := (hV.cell (p := ⟨wr.heap.size, 2, none⟩) (by simp)).trans ((World.cell?_alloc_at _ _ _ _ rfl).trans rfl); have d3 : V.cell? ⟨wr.heap.size, 3, none⟩ = some (.int .i64 9) := (hV.cell (p := ⟨wr.heap.size, 3, none⟩) (by simp)).trans ((World.cell?_alloc_at _ _ _ _ rfl).trans rfl); have hzv : wr.heap.size < V.heap.size := (by have := hV.size; simp at this; omega); have HV := Lib.hid hV; clear hV)
      go_roundw
      case rel => exact ⟨5, by omega, rfl, (HB.out.trans (((Below.refl _ wr).alloc (by omega) _).trans (HV.out.mono (by simp; omega)))).alloc (by omega) _⟩
      case measure => simp [intOf]
    · have hBw : Below w.heap.size w wr := (tabW_below w).trans (HB.out.mono (by omega))
      have HBw := Lib.hid hBw
      clear hBw HB hz1
      go_wp2_with fail
      obtain ⟨wo, rfl⟩ : ∃ wo : World, wo = wr := ⟨_, rfl⟩
      go_loopw [62] (fun i wr => ∃ k : Nat, k ≤ 3 ∧ i = .int .i64 k ∧ Below (wo.heap.size + 3) (tib wo) wr) (fun i _ => 3 - (intOf i).toNat)
      case atStart => exact ⟨0, by omega, rfl, Below.refl _ _⟩
      case round =>
        obtain ⟨k, hk, rfl, hB⟩ := hrel
        have hzr2 := hB.size
        rw [tib_size] at hzr2
        have hz1 : wo.heap.size + 1 + 1 < wr.heap.size := by omega
        have HB := Lib.hid hB
        clear hB
        rcases (show k = 0 ∨ k = 1 ∨ k = 2 ∨ k = 3 by omega) with rfl | rfl | rfl | rfl
        · have c0 := (HB.out.cell (p := ⟨wo.heap.size + 1 + 1, 0, none⟩) (by simp)).trans (tib_c0 wo)
          have c1 := (HB.out.cell (p := ⟨wo.heap.size + 1 + 1, 1, none⟩) (by simp)).trans (tib_c1 wo)
          have c2 := (HB.out.cell (p := ⟨wo.heap.size + 1 + 1, 2, none⟩) (by simp)).trans (tib_c2 wo)
          go_wp2_with (go_at_call 27; refine (rownd12_0 wo wr HB.out _ rfl).mono ?_; rintro e V ⟨rfl, hV⟩; have d0 : V.cell? ⟨wr.heap.size, 0, none⟩ = some (.slice (some ⟨wo.heap.size, 0, none⟩) 1 1) := (hV.cell (p := ⟨wr.heap.size, 0, none⟩) (by simp)).trans ((World.cell?_alloc_at _ _ _ _ rfl).trans rfl); have d1 : V.cell? ⟨wr.heap.size, 1, none⟩ = some (.string ⟨#[69, 105, 114, 101]⟩) := (hV.cell (p := ⟨wr.heap.size, 1, none⟩) (by simp)).trans ((World.cell?_alloc_at _ _ _ _ rfl).trans rfl); have d2 : V.cell? ⟨wr.heap.size, 2, none⟩ = some (.int .i64 0) := (hV.cell (p := ⟨wr.heap.size, 2, none⟩) (by simp)).trans ((World.cell?_alloc_at _ _ _ _ rfl).trans rfl); have hzv : wr.heap.size < V.heap.size := (by have := hV.size; simp at this; omega); have HV := Lib.hid hV; clear hV)
          go_roundw
          case rel => first | exact ⟨1, by omega, rfl, HB.out.trans (((Below.refl _ wr).alloc (by omega) _).trans (HV.out.mono (by simp; omega)))⟩ | ((repeat apply Exists.intro); exact ⟨⟨1, by omega, rfl, HB.out.trans (((Below.refl _ wr).alloc (by omega) _).trans (HV.out.mono (by simp; omega)))⟩, rfl⟩)
          case measure => simp [intOf]
        · have c0 := (HB.out.cell (p := ⟨wo.heap.size + 1 + 1, 3, none⟩) (by simp)).trans (tib_c3 wo)
          have c1 := (HB.out.cell (p := ⟨wo.heap.size + 1 + 1, 4, none⟩) (by simp)).trans (tib_c4 wo)
          have c2 := (HB.out.cell (p := ⟨wo.heap.size + 1 + 1, 5, none⟩) (by simp)).trans (tib_c5 wo)
          go_wp2_with (go_at_call 27; refine (rownd12_1 wo wr HB.out _ rfl).mono ?_; rintro e V ⟨rfl, hV⟩; have d0 : V.cell? ⟨wr.heap.size, 0, none⟩ = some (.slice (some ⟨wo.heap.size + 1, 0, none⟩) 1 1) := (hV.cell (p := ⟨wr.heap.size, 0, none⟩) (by simp)).trans ((World.cell?_alloc_at _ _ _ _ rfl).trans rfl); have d1 : V.cell? ⟨wr.heap.size, 1, none⟩ = some (.string ⟨#[]⟩) := (hV.cell (p := ⟨wr.heap.size, 1, none⟩) (by simp)).trans ((World.cell?_alloc_at _ _ _ _ rfl).trans rfl); have d2 : V.cell? ⟨wr.heap.size, 2, none⟩ = some (.int .i64 9) := (hV.cell (p := ⟨wr.heap.size, 2, none⟩) (by simp)).trans ((World.cell?_alloc_at _ _ _ _ rfl).trans rfl); have hzv : wr.heap.size < V.heap.size := (by have := hV.size; simp at this; omega); have HV := Lib.hid hV; clear hV)
          go_roundw
          case rel => first | exact ⟨2, by omega, rfl, HB.out.trans (((Below.refl _ wr).alloc (by omega) _).trans (HV.out.mono (by simp; omega)))⟩ | ((repeat apply Exists.intro); exact ⟨⟨2, by omega, rfl, HB.out.trans (((Below.refl _ wr).alloc (by omega) _).trans (HV.out.mono (by simp; omega)))⟩, rfl⟩)
          case measure => simp [intOf]
        · have c0 := (HB.out.cell (p := ⟨wo.heap.size + 1 + 1, 6, none⟩) (by simp)).trans (tib_c6 wo)
          have c1 := (HB.out.cell (p := ⟨wo.heap.size + 1 + 1, 7, none⟩) (by simp)).trans (tib_c7 wo)
          have c2 := (HB.out.cell (p := ⟨wo.heap.size + 1 + 1, 8, none⟩) (by simp)).trans (tib_c8 wo)
          go_wp2_with (go_at_call 27; refine (rownd12_2 wo wr HB.out _ rfl).mono ?_; rintro e V ⟨rfl, hV⟩; have d0 : V.cell? ⟨wr.heap.size, 0, none⟩ = some (.slice none 0 0) := (hV.cell (p := ⟨wr.heap.size, 0, none⟩) (by simp)).trans ((World.cell?_alloc_at _ _ _ _ rfl).trans rfl); have d1 : V.cell? ⟨wr.heap.size, 1, none⟩ = some (.string ⟨#[]⟩) := (hV.cell (p := ⟨wr.heap.size, 1, none⟩) (by simp)).trans ((World.cell?_alloc_at _ _ _ _ rfl).trans rfl); have d2 : V.cell? ⟨wr.heap.size, 2, none⟩ = some (.int .i64 5) := (hV.cell (p := ⟨wr.heap.size, 2, none⟩) (by simp)).trans ((World.cell?_alloc_at _ _ _ _ rfl).trans rfl); have hzv : wr.heap.size < V.heap.size := (by have := hV.size; simp at this; omega); have HV := Lib.hid hV; clear hV)
          go_roundw
          case rel => first | exact ⟨3, by omega, rfl, HB.out.trans (((Below.refl _ wr).alloc (by omega) _).trans (HV.out.mono (by simp; omega)))⟩ | ((repeat apply Exists.intro); exact ⟨⟨3, by omega, rfl, HB.out.trans (((Below.refl _ wr).alloc (by omega) _).trans (HV.out.mono (by simp; omega)))⟩, rfl⟩)
          case measure => simp [intOf]
        · have hBw : Below w.heap.size w wr := HBw.out.trans (((tib_below wo).trans (HB.out.mono (by omega))).mono HBw.out.size)
          have HBw2 := Lib.hid hBw
          clear hBw HB hz1
          go_wp2_with fail
          refine (print29_is ⟨#[65, 47, 66]⟩ ⟨#[67]⟩ ⟨#[76, 105, 110, 107, 32, 65, 47, 66, 32, 67]⟩ 0 (by decide) (by decide) (by kernel_rfl) (by kernel_rfl) _).mono ?_
          rintro e w1 ⟨rfl, h1⟩
          go_wp2_with fail
          refine (print29_is ⟨#[65, 32, 66]⟩ ⟨#[67]⟩ ⟨#[]⟩ 2 (by decide) (by decide) (by kernel_rfl) (by kernel_rfl) _).mono ?_
          rintro e w2 ⟨rfl, h2⟩
          go_wp2_with fail
          refine (printShift31_is ⟨#[69, 105, 114, 101]⟩ ⟨#[83, 104, 105, 102, 116, 32, 69, 105, 114, 101]⟩ 0 (by decide) (by kernel_rfl) (by kernel_rfl) _).mono ?_
          rintro e w3 ⟨rfl, h3⟩
          go_wp2_with fail
          refine (printShift31_is ⟨#[]⟩ ⟨#[]⟩ 2 (by decide) (by kernel_rfl) (by kernel_rfl) _).mono ?_
          rintro e w4 ⟨rfl, h4⟩
          go_wp2
          go_ret
          have e0 := HBw2.out.size
          have e1 := h1.size
          have e2 := h2.size
          have e3 := h3.size
          exact ⟨rfl, HBw2.out.trans ((h1.mono (by omega)).trans ((h2.mono (by omega)).trans ((h3.mono (by omega)).trans (h4.mono (by omega)))))⟩
end Go.Proofs.YticmkjcaekhgpaaDoor
