/- The law LinklineNames returns true for every two strings, and its tied card holds; no condition beyond the row itself. -/
import Derived.Test.YticmkjcaekhgpaaDoorLinklinePrints
namespace Go.Proofs.YticmkjcaekhgpaaDoor
open Go.ChangeShapes Go.WideShapes Go.ChangeAt Go.RowKit
open Go.ChangeMaps (open_string)

theorem namesE2 (s t : ByteArray) : namesE zoneOk [s, t] 2 = if zoneOk s.data.toList && zoneOk t.data.toList then 0 else 9 := by unfold namesE; simp
theorem namesE1 (s : ByteArray) : namesE setOk [s] 1 = if setOk s.data.toList then 0 else 9 := by unfold namesE; simp
theorem link_any (s t x y : ByteArray) (er : Int) (he : namesE zoneOk [s, t] 2 = er) (hx : lkT [s, t] = x) (hy : lkN [s, t] = y) (b : Nat) (W : World) (hS : StrsAt W (some ⟨b, 0, none⟩) [s, t]) :
    Calls Tryd.prog 25 #[.slice (some ⟨b, 0, none⟩) 2 2] W fun e w' => e = .returned (.tuple #[.agg #[.string x, .string y], .int .i64 er]) ∧ Below W.heap.size W w' := by
  subst he hx hy
  exact link25 [s, t] _ 2 W hS (by unfold maxLen; simp)
theorem shift_any (s z : ByteArray) (er : Int) (he : namesE setOk [s] 1 = er) (hz : shV [s] = z) (b : Nat) (W : World) (hS : StrsAt W (some ⟨b, 0, none⟩) [s]) :
    Calls Tryd.prog 27 #[.slice (some ⟨b, 0, none⟩) 1 1] W fun e w' => e = .returned (.tuple #[.string z, .int .i64 er]) ∧ Below W.heap.size W w' := by
  subst he hz
  exact shift27 [s] _ 1 W hS (by unfold maxLen; simp)
theorem print_any (t n o : ByteArray) (er : Int) (ht : t.size ≤ maxLen) (hn : n.size ≤ maxLen) (ho : bytesOf (lineL [76, 105, 110, 107] zoneOk [t, n]) = o) (he : lineE zoneOk [t, n] = er) (W : World) :
    Calls Tryd.prog 29 #[.agg #[.string t, .string n]] W fun e w' => e = .returned (.tuple #[.string o, .int .i64 er]) ∧ Below W.heap.size W w' := by
  subst ho he
  exact print29 t n ht hn W
theorem printShift_any (s o : ByteArray) (er : Int) (hs : s.size ≤ maxLen) (ho : bytesOf (lineL [83, 104, 105, 102, 116] setOk [s]) = o) (he : lineE setOk [s] = er) (W : World) :
    Calls Tryd.prog 31 #[.string s] W fun e w' => e = .returned (.tuple #[.string o, .int .i64 er]) ∧ Below W.heap.size W w' := by
  subst ho he
  exact printShift31 s hs W
theorem zone_is (v : Bool) (s : ByteArray) (hs : s.size ≤ maxLen) (hv : zoneOk s.data.toList = v) (w : World) :
    Calls Tryd.prog 13 #[.string s] w fun e w' => e = .returned (.bool v) ∧ Below w.heap.size w w' := by
  subst hv; exact zone_any s hs w
theorem set_is (v : Bool) (s : ByteArray) (hs : s.size ≤ maxLen) (hv : setOk s.data.toList = v) (w : World) :
    Calls Tryd.prog 15 #[.string s] w fun e w' => e = .returned (.bool v) ∧ Below w.heap.size w w' := by
  subst hv; exact set15 s hs w
theorem strs_cells {W : World} {b : Nat} {cs : Array Value} (S : List ByteArray) (h : W.heap[b]? = some (.cells cs 9)) (hcs : cs = (S.map Value.string).toArray) (j : Nat) (x : ByteArray) (hx : S[j]? = some x) : W.cell? ⟨b, j, none⟩ = some (.string x) := by
  subst hcs
  simp [World.cell?, h, hx]
/-- the three words of a line, joined -/
theorem join_any (s t o : ByteArray) (h1 : zoneOk s.data.toList = true) (h2 : zoneOk t.data.toList = true) (ho : bytesOf (lineL [76, 105, 110, 107] zoneOk [s, t]) = o) (b : Nat) (W : World) (hb : b < W.heap.size)
    (hc : W.heap[b]? = some (.cells #[.string ⟨#[76, 105, 110, 107]⟩, .string s, .string t] 9)) :
    Calls Tryd.prog 33 #[.slice (some ⟨b, 0, none⟩) 3 3, .string ⟨#[32]⟩] W fun e w' => e = .returned (.string o) ∧ Below W.heap.size W w' := by
  have l1 := zone_len _ h1
  have l2 := zone_len _ h2
  have e : lineL [76, 105, 110, 107] zoneOk [s, t] = Lib.join ([(⟨#[76, 105, 110, 107]⟩ : ByteArray), s, t].map (·.data.toList)) (⟨#[32]⟩ : ByteArray).data.toList := by
    unfold lineL
    simp [h1, h2, Lib.join]
  have hlen : (Lib.join ([(⟨#[76, 105, 110, 107]⟩ : ByteArray), s, t].map (·.data.toList)) (⟨#[32]⟩ : ByteArray).data.toList).length ≤ 140737488355328 := by
    rw [← e]
    unfold lineL
    simp [h1, h2, Lib.join]
    simp at l1 l2
    omega
  have k0 : ∀ (j : Nat) x, [(⟨#[76, 105, 110, 107]⟩ : ByteArray), s, t][j]? = some x → W.cell? ⟨b, 0 + j, none⟩ = some (.string x) := by
    intro j x hx
    have := strs_cells [(⟨#[76, 105, 110, 107]⟩ : ByteArray), s, t] hc rfl j x hx
    rw [Nat.zero_add]; exact this
  have h := Tryd.strings_Join b 0 3 [(⟨#[76, 105, 110, 107]⟩ : ByteArray), s, t] ⟨#[32]⟩ W k0 hb (by simp) (by simp) hlen
  rw [← ho, e]
  exact h

set_option maxHeartbeats 4000000 in
theorem names_a (s t : ByteArray) (hs : s.size ≤ maxLen) (ht : t.size ≤ maxLen) (h1 : zoneOk s.data.toList = false) (h3 : setOk s.data.toList = false) (W : World)
    (hf : ([s, t].all (fun s => decide (s.size ≤ 200)) && decide ([s, t].length ≤ 10)) = true) :
    Calls Tryd.prog 8 #[.string s, .string t] W fun e w' => e = .returned (.bool true) ∧ Below W.heap.size W w' := by
  have hall : ∀ x ∈ [s, t], x.size ≤ maxLen := by
    intro x hx
    simp at hx
    rcases hx with rfl | rfl <;> assumption
  have hall1 : ∀ x ∈ [s], x.size ≤ maxLen := by
    intro x hx
    simp at hx
    subst hx; assumption
  have he : namesE zoneOk [s, t] 2 = 9 := by rw [namesE2, h1]; rfl
  have hx : lkT [s, t] = ⟨#[]⟩ := by unfold lkT; rw [he]; rfl
  have hy : lkN [s, t] = ⟨#[]⟩ := by unfold lkN; rw [he]; rfl
  have hpe : lineE zoneOk [s, t] = 2 := by unfold lineE; simp [h1]
  have ho : bytesOf (lineL [76, 105, 110, 107] zoneOk [s, t]) = ⟨#[]⟩ := by unfold lineL; simp [h1, bytesOf]
  have he2 : namesE setOk [s] 1 = 9 := by rw [namesE1, h3]; rfl
  have hz : shV [s] = ⟨#[]⟩ := by unfold shV; rw [he2]; rfl
  have hse : lineE setOk [s] = 2 := by unfold lineE; simp [h3]
  have ho2 : bytesOf (lineL [83, 104, 105, 102, 116] setOk [s]) = ⟨#[]⟩ := by unfold lineL; simp [h3, bytesOf]
  have HA := Lib.hid hall
  have HA1 := Lib.hid hall1
  have HF := Lib.hid hf
  have C13 := Lib.hid (zone_is false s hs h1)
  have C25 := Lib.hid (link_any s t ⟨#[]⟩ ⟨#[]⟩ 9 he hx hy)
  have C29 := Lib.hid (print_any s t ⟨#[]⟩ 2 hs ht ho hpe)
  have C27 := Lib.hid (shift_any s ⟨#[]⟩ 9 he2 hz)
  have C31 := Lib.hid (printShift_any s ⟨#[]⟩ 2 hs ho2 hse)
  have C15 := Lib.hid (set_is false s hs h3)
  clear hall hall1 hf h1 h3 he hx hy hpe ho he2 hz hse ho2 hs ht
  go_enter Tryd.func8, Tryd.ntmps8
  go_wp2_with fail
  refine (few23_is true [s, t] 2 rfl _ _ _ (strs_big [s, t] (cs := #[.string s, .string t]) (heap_alloc_at rfl) rfl HA.out) (by unfold maxLen; simp) HF.out).mono ?_
  rintro e w' ⟨rfl, rfl⟩
  have B0 := Lib.hid ((Below.refl W.heap.size W).alloc (Nat.le_refl _) (.cells #[.string s, .string t] 9))
  go_wp2_with fail
  refine (C13.out _).mono ?_
  rintro e V1 ⟨rfl, k1⟩
  have B1 := Lib.hid (B0.out.trans (k1.mono B0.out.size))
  clear k1
  have A2 := Lib.hid (B1.out.alloc B1.out.size (.cells #[.string s, .string t] 9))
  go_wp2_with fail
  refine (C25.out _ _ (strs_big [s, t] (cs := #[.string s, .string t]) (heap_alloc_at rfl) rfl HA.out)).mono ?_
  rintro e V3 ⟨rfl, k3⟩
  have B3 := Lib.hid (A2.out.trans (k3.mono A2.out.size))
  clear k3
  have A3 := Lib.hid (B3.out.alloc B3.out.size (.cells #[.string ⟨#[]⟩, .string ⟨#[]⟩] 34))
  go_wp2_with fail
  refine (C29.out _).mono ?_
  rintro e V4 ⟨rfl, k4⟩
  have z4 : V3.heap.size < V4.heap.size := by have := k4.size; simp at this; omega
  have p4 : V4.cell? ⟨V3.heap.size, 0, none⟩ = some (.string ⟨#[]⟩) := (k4.cell (p := ⟨V3.heap.size, 0, none⟩) (by simp)).trans ((World.cell?_alloc_at _ _ _ _ rfl).trans rfl)
  have q4 : V4.cell? ⟨V3.heap.size, 1, none⟩ = some (.string ⟨#[]⟩) := (k4.cell (p := ⟨V3.heap.size, 1, none⟩) (by simp)).trans ((World.cell?_alloc_at _ _ _ _ rfl).trans rfl)
  have B4 := Lib.hid (A3.out.trans (k4.mono A3.out.size))
  clear k4
  have A4 := Lib.hid (B4.out.alloc B4.out.size (.cells #[.string s] 9))
  go_wp2_with fail
  refine (C27.out _ _ (strs_big [s] (cs := #[.string s]) (heap_alloc_at rfl) rfl HA1.out)).mono ?_
  rintro e V5 ⟨rfl, k5⟩
  have z5 : V3.heap.size < V5.heap.size := by have := k5.size; simp at this; omega
  have p5 : V5.cell? ⟨V3.heap.size, 0, none⟩ = some (.string ⟨#[]⟩) := (k5.cell (p := ⟨V3.heap.size, 0, none⟩) (by simp; omega)).trans ((World.cell?_alloc_past _ _ _ z4).trans p4)
  have q5 : V5.cell? ⟨V3.heap.size, 1, none⟩ = some (.string ⟨#[]⟩) := (k5.cell (p := ⟨V3.heap.size, 1, none⟩) (by simp; omega)).trans ((World.cell?_alloc_past _ _ _ z4).trans q4)
  have B5 := Lib.hid (A4.out.trans (k5.mono A4.out.size))
  clear k5 p4 q4 z4
  go_wp2_with fail
  refine (C31.out _).mono ?_
  rintro e V6 ⟨rfl, k6⟩
  have z6 : V3.heap.size < V6.heap.size := by have := k6.size; omega
  have p6 : V6.cell? ⟨V3.heap.size, 0, none⟩ = some (.string ⟨#[]⟩) := (k6.cell (p := ⟨V3.heap.size, 0, none⟩) z5).trans p5
  have q6 : V6.cell? ⟨V3.heap.size, 1, none⟩ = some (.string ⟨#[]⟩) := (k6.cell (p := ⟨V3.heap.size, 1, none⟩) z5).trans q5
  have B6 := Lib.hid (B5.out.trans (k6.mono B5.out.size))
  clear k6 p5 q5 z5
  go_wp2_with fail
  refine (C15.out _).mono ?_
  rintro e V7 ⟨rfl, k7⟩
  have z7 : V3.heap.size < V7.heap.size := by have := k7.size; omega
  have p7 : V7.cell? ⟨V3.heap.size, 0, none⟩ = some (.string ⟨#[]⟩) := (k7.cell (p := ⟨V3.heap.size, 0, none⟩) z6).trans p6
  have q7 : V7.cell? ⟨V3.heap.size, 1, none⟩ = some (.string ⟨#[]⟩) := (k7.cell (p := ⟨V3.heap.size, 1, none⟩) z6).trans q6
  have B7 := Lib.hid (B6.out.trans (k7.mono B6.out.size))
  clear k7 p6 q6 z6
  go_wp2_with fail
  refine (C15.out _).mono ?_
  rintro e V8 ⟨rfl, k8⟩
  have z8 : V3.heap.size < V8.heap.size := by have := k8.size; omega
  have p8 : V8.cell? ⟨V3.heap.size, 0, none⟩ = some (.string ⟨#[]⟩) := (k8.cell (p := ⟨V3.heap.size, 0, none⟩) z7).trans p7
  have q8 : V8.cell? ⟨V3.heap.size, 1, none⟩ = some (.string ⟨#[]⟩) := (k8.cell (p := ⟨V3.heap.size, 1, none⟩) z7).trans q7
  have B8 := Lib.hid (B7.out.trans (k8.mono B7.out.size))
  clear k8 p7 q7 z7
  go_wp2_with fail
  refine (C15.out _).mono ?_
  rintro e V9 ⟨rfl, k9⟩
  have z9 : V3.heap.size < V9.heap.size := by have := k9.size; omega
  have p9 : V9.cell? ⟨V3.heap.size, 0, none⟩ = some (.string ⟨#[]⟩) := (k9.cell (p := ⟨V3.heap.size, 0, none⟩) z8).trans p8
  have q9 : V9.cell? ⟨V3.heap.size, 1, none⟩ = some (.string ⟨#[]⟩) := (k9.cell (p := ⟨V3.heap.size, 1, none⟩) z8).trans q8
  have B9 := Lib.hid (B8.out.trans (k9.mono B8.out.size))
  clear k9 p8 q8 z8
  go_wp2_with fail
  refine (works24 _).mono ?_
  rintro e V11 ⟨rfl, k11⟩
  go_wp2
  go_ret
  exact ⟨rfl, B9.out.trans (k11.mono B9.out.size)⟩

set_option maxHeartbeats 4000000 in
theorem names_b (s t : ByteArray) (hs : s.size ≤ maxLen) (ht : t.size ≤ maxLen) (h1 : zoneOk s.data.toList = false) (h3 : setOk s.data.toList = true) (W : World)
    (hf : ([s, t].all (fun s => decide (s.size ≤ 200)) && decide ([s, t].length ≤ 10)) = true) :
    Calls Tryd.prog 8 #[.string s, .string t] W fun e w' => e = .returned (.bool true) ∧ Below W.heap.size W w' := by
  have hall : ∀ x ∈ [s, t], x.size ≤ maxLen := by
    intro x hx
    simp at hx
    rcases hx with rfl | rfl <;> assumption
  have hall1 : ∀ x ∈ [s], x.size ≤ maxLen := by
    intro x hx
    simp at hx
    subst hx; assumption
  have he : namesE zoneOk [s, t] 2 = 9 := by rw [namesE2, h1]; rfl
  have hx : lkT [s, t] = ⟨#[]⟩ := by unfold lkT; rw [he]; rfl
  have hy : lkN [s, t] = ⟨#[]⟩ := by unfold lkN; rw [he]; rfl
  have hpe : lineE zoneOk [s, t] = 2 := by unfold lineE; simp [h1]
  have ho : bytesOf (lineL [76, 105, 110, 107] zoneOk [s, t]) = ⟨#[]⟩ := by unfold lineL; simp [h1, bytesOf]
  have he2 : namesE setOk [s] 1 = 0 := by rw [namesE1, h3]; rfl
  have hz : shV [s] = s := by unfold shV; rw [he2]; rfl
  have hse : lineE setOk [s] = 0 := by unfold lineE; simp [h3]
  obtain ⟨o2, ho2⟩ : ∃ o2, bytesOf (lineL [83, 104, 105, 102, 116] setOk [s]) = o2 := ⟨_, rfl⟩
  have HA := Lib.hid hall
  have HA1 := Lib.hid hall1
  have HF := Lib.hid hf
  have C13 := Lib.hid (zone_is false s hs h1)
  have C25 := Lib.hid (link_any s t ⟨#[]⟩ ⟨#[]⟩ 9 he hx hy)
  have C29 := Lib.hid (print_any s t ⟨#[]⟩ 2 hs ht ho hpe)
  have C27 := Lib.hid (shift_any s s 0 he2 hz)
  have C31 := Lib.hid (printShift_any s o2 0 hs ho2 hse)
  have C15 := Lib.hid (set_is true s hs h3)
  clear hall hall1 hf h1 h3 he hx hy hpe ho he2 hz hse ho2 hs ht
  go_enter Tryd.func8, Tryd.ntmps8
  go_wp2_with fail
  refine (few23_is true [s, t] 2 rfl _ _ _ (strs_big [s, t] (cs := #[.string s, .string t]) (heap_alloc_at rfl) rfl HA.out) (by unfold maxLen; simp) HF.out).mono ?_
  rintro e w' ⟨rfl, rfl⟩
  have B0 := Lib.hid ((Below.refl W.heap.size W).alloc (Nat.le_refl _) (.cells #[.string s, .string t] 9))
  go_wp2_with fail
  refine (C13.out _).mono ?_
  rintro e V1 ⟨rfl, k1⟩
  have B1 := Lib.hid (B0.out.trans (k1.mono B0.out.size))
  clear k1
  have A2 := Lib.hid (B1.out.alloc B1.out.size (.cells #[.string s, .string t] 9))
  go_wp2_with fail
  refine (C25.out _ _ (strs_big [s, t] (cs := #[.string s, .string t]) (heap_alloc_at rfl) rfl HA.out)).mono ?_
  rintro e V3 ⟨rfl, k3⟩
  have B3 := Lib.hid (A2.out.trans (k3.mono A2.out.size))
  clear k3
  have A3 := Lib.hid (B3.out.alloc B3.out.size (.cells #[.string ⟨#[]⟩, .string ⟨#[]⟩] 34))
  go_wp2_with fail
  refine (C29.out _).mono ?_
  rintro e V4 ⟨rfl, k4⟩
  have z4 : V3.heap.size < V4.heap.size := by have := k4.size; simp at this; omega
  have p4 : V4.cell? ⟨V3.heap.size, 0, none⟩ = some (.string ⟨#[]⟩) := (k4.cell (p := ⟨V3.heap.size, 0, none⟩) (by simp)).trans ((World.cell?_alloc_at _ _ _ _ rfl).trans rfl)
  have q4 : V4.cell? ⟨V3.heap.size, 1, none⟩ = some (.string ⟨#[]⟩) := (k4.cell (p := ⟨V3.heap.size, 1, none⟩) (by simp)).trans ((World.cell?_alloc_at _ _ _ _ rfl).trans rfl)
  have B4 := Lib.hid (A3.out.trans (k4.mono A3.out.size))
  clear k4
  have A4 := Lib.hid (B4.out.alloc B4.out.size (.cells #[.string s] 9))
  go_wp2_with fail
  refine (C27.out _ _ (strs_big [s] (cs := #[.string s]) (heap_alloc_at rfl) rfl HA1.out)).mono ?_
  rintro e V5 ⟨rfl, k5⟩
  have z5 : V3.heap.size < V5.heap.size := by have := k5.size; simp at this; omega
  have p5 : V5.cell? ⟨V3.heap.size, 0, none⟩ = some (.string ⟨#[]⟩) := (k5.cell (p := ⟨V3.heap.size, 0, none⟩) (by simp; omega)).trans ((World.cell?_alloc_past _ _ _ z4).trans p4)
  have q5 : V5.cell? ⟨V3.heap.size, 1, none⟩ = some (.string ⟨#[]⟩) := (k5.cell (p := ⟨V3.heap.size, 1, none⟩) (by simp; omega)).trans ((World.cell?_alloc_past _ _ _ z4).trans q4)
  have B5 := Lib.hid (A4.out.trans (k5.mono A4.out.size))
  clear k5 p4 q4 z4
  go_wp2_with fail
  refine (C31.out _).mono ?_
  rintro e V6 ⟨rfl, k6⟩
  have z6 : V3.heap.size < V6.heap.size := by have := k6.size; omega
  have p6 : V6.cell? ⟨V3.heap.size, 0, none⟩ = some (.string ⟨#[]⟩) := (k6.cell (p := ⟨V3.heap.size, 0, none⟩) z5).trans p5
  have q6 : V6.cell? ⟨V3.heap.size, 1, none⟩ = some (.string ⟨#[]⟩) := (k6.cell (p := ⟨V3.heap.size, 1, none⟩) z5).trans q5
  have B6 := Lib.hid (B5.out.trans (k6.mono B5.out.size))
  clear k6 p5 q5 z5
  go_wp2_with fail
  refine (C15.out _).mono ?_
  rintro e V7 ⟨rfl, k7⟩
  have z7 : V3.heap.size < V7.heap.size := by have := k7.size; omega
  have p7 : V7.cell? ⟨V3.heap.size, 0, none⟩ = some (.string ⟨#[]⟩) := (k7.cell (p := ⟨V3.heap.size, 0, none⟩) z6).trans p6
  have q7 : V7.cell? ⟨V3.heap.size, 1, none⟩ = some (.string ⟨#[]⟩) := (k7.cell (p := ⟨V3.heap.size, 1, none⟩) z6).trans q6
  have B7 := Lib.hid (B6.out.trans (k7.mono B6.out.size))
  clear k7 p6 q6 z6
  go_wp2_with fail
  refine (C15.out _).mono ?_
  rintro e V8 ⟨rfl, k8⟩
  have z8 : V3.heap.size < V8.heap.size := by have := k8.size; omega
  have p8 : V8.cell? ⟨V3.heap.size, 0, none⟩ = some (.string ⟨#[]⟩) := (k8.cell (p := ⟨V3.heap.size, 0, none⟩) z7).trans p7
  have q8 : V8.cell? ⟨V3.heap.size, 1, none⟩ = some (.string ⟨#[]⟩) := (k8.cell (p := ⟨V3.heap.size, 1, none⟩) z7).trans q7
  have B8 := Lib.hid (B7.out.trans (k8.mono B7.out.size))
  clear k8 p7 q7 z7
  go_wp2_with fail
  refine (C15.out _).mono ?_
  rintro e V9 ⟨rfl, k9⟩
  have z9 : V3.heap.size < V9.heap.size := by have := k9.size; omega
  have p9 : V9.cell? ⟨V3.heap.size, 0, none⟩ = some (.string ⟨#[]⟩) := (k9.cell (p := ⟨V3.heap.size, 0, none⟩) z8).trans p8
  have q9 : V9.cell? ⟨V3.heap.size, 1, none⟩ = some (.string ⟨#[]⟩) := (k9.cell (p := ⟨V3.heap.size, 1, none⟩) z8).trans q8
  have B9 := Lib.hid (B8.out.trans (k9.mono B8.out.size))
  clear k9 p8 q8 z8
  go_wp2_with fail
  refine (works24 _).mono ?_
  rintro e V11 ⟨rfl, k11⟩
  go_wp2
  go_ret
  exact ⟨rfl, B9.out.trans (k11.mono B9.out.size)⟩

set_option maxHeartbeats 4000000 in
theorem names_c (s t : ByteArray) (hs : s.size ≤ maxLen) (ht : t.size ≤ maxLen) (h1 : zoneOk s.data.toList = true) (h2 : zoneOk t.data.toList = false) (h3 : setOk s.data.toList = false) (W : World)
    (hf : ([s, t].all (fun s => decide (s.size ≤ 200)) && decide ([s, t].length ≤ 10)) = true) :
    Calls Tryd.prog 8 #[.string s, .string t] W fun e w' => e = .returned (.bool true) ∧ Below W.heap.size W w' := by
  have hall : ∀ x ∈ [s, t], x.size ≤ maxLen := by
    intro x hx
    simp at hx
    rcases hx with rfl | rfl <;> assumption
  have hall1 : ∀ x ∈ [s], x.size ≤ maxLen := by
    intro x hx
    simp at hx
    subst hx; assumption
  have he : namesE zoneOk [s, t] 2 = 9 := by rw [namesE2, h1, h2]; rfl
  have hx : lkT [s, t] = ⟨#[]⟩ := by unfold lkT; rw [he]; rfl
  have hy : lkN [s, t] = ⟨#[]⟩ := by unfold lkN; rw [he]; rfl
  have hpe : lineE zoneOk [s, t] = 2 := by unfold lineE; simp [h1, h2]
  have ho : bytesOf (lineL [76, 105, 110, 107] zoneOk [s, t]) = ⟨#[]⟩ := by unfold lineL; simp [h1, h2, bytesOf]
  have he2 : namesE setOk [s] 1 = 9 := by rw [namesE1, h3]; rfl
  have hz : shV [s] = ⟨#[]⟩ := by unfold shV; rw [he2]; rfl
  have hse : lineE setOk [s] = 2 := by unfold lineE; simp [h3]
  have ho2 : bytesOf (lineL [83, 104, 105, 102, 116] setOk [s]) = ⟨#[]⟩ := by unfold lineL; simp [h3, bytesOf]
  have HA := Lib.hid hall
  have HA1 := Lib.hid hall1
  have HF := Lib.hid hf
  have C13 := Lib.hid (zone_is true s hs h1)
  have D13 := Lib.hid (zone_is false t ht h2)
  have C25 := Lib.hid (link_any s t ⟨#[]⟩ ⟨#[]⟩ 9 he hx hy)
  have C29 := Lib.hid (print_any s t ⟨#[]⟩ 2 hs ht ho hpe)
  have C27 := Lib.hid (shift_any s ⟨#[]⟩ 9 he2 hz)
  have C31 := Lib.hid (printShift_any s ⟨#[]⟩ 2 hs ho2 hse)
  have C15 := Lib.hid (set_is false s hs h3)
  clear hall hall1 hf h1 h2 h3 he hx hy hpe ho he2 hz hse ho2 hs ht
  go_enter Tryd.func8, Tryd.ntmps8
  go_wp2_with fail
  refine (few23_is true [s, t] 2 rfl _ _ _ (strs_big [s, t] (cs := #[.string s, .string t]) (heap_alloc_at rfl) rfl HA.out) (by unfold maxLen; simp) HF.out).mono ?_
  rintro e w' ⟨rfl, rfl⟩
  have B0 := Lib.hid ((Below.refl W.heap.size W).alloc (Nat.le_refl _) (.cells #[.string s, .string t] 9))
  go_wp2_with fail
  refine (C13.out _).mono ?_
  rintro e V1 ⟨rfl, k1⟩
  have B1 := Lib.hid (B0.out.trans (k1.mono B0.out.size))
  clear k1
  go_wp2_with fail
  refine (D13.out _).mono ?_
  rintro e V2 ⟨rfl, k2⟩
  have B2 := Lib.hid (B1.out.trans (k2.mono B1.out.size))
  clear k2
  have A2 := Lib.hid (B2.out.alloc B2.out.size (.cells #[.string s, .string t] 9))
  go_wp2_with fail
  refine (C25.out _ _ (strs_big [s, t] (cs := #[.string s, .string t]) (heap_alloc_at rfl) rfl HA.out)).mono ?_
  rintro e V3 ⟨rfl, k3⟩
  have B3 := Lib.hid (A2.out.trans (k3.mono A2.out.size))
  clear k3
  have A3 := Lib.hid (B3.out.alloc B3.out.size (.cells #[.string ⟨#[]⟩, .string ⟨#[]⟩] 34))
  go_wp2_with fail
  refine (C29.out _).mono ?_
  rintro e V4 ⟨rfl, k4⟩
  have z4 : V3.heap.size < V4.heap.size := by have := k4.size; simp at this; omega
  have p4 : V4.cell? ⟨V3.heap.size, 0, none⟩ = some (.string ⟨#[]⟩) := (k4.cell (p := ⟨V3.heap.size, 0, none⟩) (by simp)).trans ((World.cell?_alloc_at _ _ _ _ rfl).trans rfl)
  have q4 : V4.cell? ⟨V3.heap.size, 1, none⟩ = some (.string ⟨#[]⟩) := (k4.cell (p := ⟨V3.heap.size, 1, none⟩) (by simp)).trans ((World.cell?_alloc_at _ _ _ _ rfl).trans rfl)
  have B4 := Lib.hid (A3.out.trans (k4.mono A3.out.size))
  clear k4
  have A4 := Lib.hid (B4.out.alloc B4.out.size (.cells #[.string s] 9))
  go_wp2_with fail
  refine (C27.out _ _ (strs_big [s] (cs := #[.string s]) (heap_alloc_at rfl) rfl HA1.out)).mono ?_
  rintro e V5 ⟨rfl, k5⟩
  have z5 : V3.heap.size < V5.heap.size := by have := k5.size; simp at this; omega
  have p5 : V5.cell? ⟨V3.heap.size, 0, none⟩ = some (.string ⟨#[]⟩) := (k5.cell (p := ⟨V3.heap.size, 0, none⟩) (by simp; omega)).trans ((World.cell?_alloc_past _ _ _ z4).trans p4)
  have q5 : V5.cell? ⟨V3.heap.size, 1, none⟩ = some (.string ⟨#[]⟩) := (k5.cell (p := ⟨V3.heap.size, 1, none⟩) (by simp; omega)).trans ((World.cell?_alloc_past _ _ _ z4).trans q4)
  have B5 := Lib.hid (A4.out.trans (k5.mono A4.out.size))
  clear k5 p4 q4 z4
  go_wp2_with fail
  refine (C31.out _).mono ?_
  rintro e V6 ⟨rfl, k6⟩
  have z6 : V3.heap.size < V6.heap.size := by have := k6.size; omega
  have p6 : V6.cell? ⟨V3.heap.size, 0, none⟩ = some (.string ⟨#[]⟩) := (k6.cell (p := ⟨V3.heap.size, 0, none⟩) z5).trans p5
  have q6 : V6.cell? ⟨V3.heap.size, 1, none⟩ = some (.string ⟨#[]⟩) := (k6.cell (p := ⟨V3.heap.size, 1, none⟩) z5).trans q5
  have B6 := Lib.hid (B5.out.trans (k6.mono B5.out.size))
  clear k6 p5 q5 z5
  go_wp2_with fail
  refine (C15.out _).mono ?_
  rintro e V7 ⟨rfl, k7⟩
  have z7 : V3.heap.size < V7.heap.size := by have := k7.size; omega
  have p7 : V7.cell? ⟨V3.heap.size, 0, none⟩ = some (.string ⟨#[]⟩) := (k7.cell (p := ⟨V3.heap.size, 0, none⟩) z6).trans p6
  have q7 : V7.cell? ⟨V3.heap.size, 1, none⟩ = some (.string ⟨#[]⟩) := (k7.cell (p := ⟨V3.heap.size, 1, none⟩) z6).trans q6
  have B7 := Lib.hid (B6.out.trans (k7.mono B6.out.size))
  clear k7 p6 q6 z6
  go_wp2_with fail
  refine (C15.out _).mono ?_
  rintro e V8 ⟨rfl, k8⟩
  have z8 : V3.heap.size < V8.heap.size := by have := k8.size; omega
  have p8 : V8.cell? ⟨V3.heap.size, 0, none⟩ = some (.string ⟨#[]⟩) := (k8.cell (p := ⟨V3.heap.size, 0, none⟩) z7).trans p7
  have q8 : V8.cell? ⟨V3.heap.size, 1, none⟩ = some (.string ⟨#[]⟩) := (k8.cell (p := ⟨V3.heap.size, 1, none⟩) z7).trans q7
  have B8 := Lib.hid (B7.out.trans (k8.mono B7.out.size))
  clear k8 p7 q7 z7
  go_wp2_with fail
  refine (C15.out _).mono ?_
  rintro e V9 ⟨rfl, k9⟩
  have z9 : V3.heap.size < V9.heap.size := by have := k9.size; omega
  have p9 : V9.cell? ⟨V3.heap.size, 0, none⟩ = some (.string ⟨#[]⟩) := (k9.cell (p := ⟨V3.heap.size, 0, none⟩) z8).trans p8
  have q9 : V9.cell? ⟨V3.heap.size, 1, none⟩ = some (.string ⟨#[]⟩) := (k9.cell (p := ⟨V3.heap.size, 1, none⟩) z8).trans q8
  have B9 := Lib.hid (B8.out.trans (k9.mono B8.out.size))
  clear k9 p8 q8 z8
  go_wp2_with fail
  refine (works24 _).mono ?_
  rintro e V11 ⟨rfl, k11⟩
  go_wp2
  go_ret
  exact ⟨rfl, B9.out.trans (k11.mono B9.out.size)⟩

set_option maxHeartbeats 4000000 in
theorem names_d (s t : ByteArray) (hs : s.size ≤ maxLen) (ht : t.size ≤ maxLen) (h1 : zoneOk s.data.toList = true) (h2 : zoneOk t.data.toList = false) (h3 : setOk s.data.toList = true) (W : World)
    (hf : ([s, t].all (fun s => decide (s.size ≤ 200)) && decide ([s, t].length ≤ 10)) = true) :
    Calls Tryd.prog 8 #[.string s, .string t] W fun e w' => e = .returned (.bool true) ∧ Below W.heap.size W w' := by
  have hall : ∀ x ∈ [s, t], x.size ≤ maxLen := by
    intro x hx
    simp at hx
    rcases hx with rfl | rfl <;> assumption
  have hall1 : ∀ x ∈ [s], x.size ≤ maxLen := by
    intro x hx
    simp at hx
    subst hx; assumption
  have he : namesE zoneOk [s, t] 2 = 9 := by rw [namesE2, h1, h2]; rfl
  have hx : lkT [s, t] = ⟨#[]⟩ := by unfold lkT; rw [he]; rfl
  have hy : lkN [s, t] = ⟨#[]⟩ := by unfold lkN; rw [he]; rfl
  have hpe : lineE zoneOk [s, t] = 2 := by unfold lineE; simp [h1, h2]
  have ho : bytesOf (lineL [76, 105, 110, 107] zoneOk [s, t]) = ⟨#[]⟩ := by unfold lineL; simp [h1, h2, bytesOf]
  have he2 : namesE setOk [s] 1 = 0 := by rw [namesE1, h3]; rfl
  have hz : shV [s] = s := by unfold shV; rw [he2]; rfl
  have hse : lineE setOk [s] = 0 := by unfold lineE; simp [h3]
  obtain ⟨o2, ho2⟩ : ∃ o2, bytesOf (lineL [83, 104, 105, 102, 116] setOk [s]) = o2 := ⟨_, rfl⟩
  have HA := Lib.hid hall
  have HA1 := Lib.hid hall1
  have HF := Lib.hid hf
  have C13 := Lib.hid (zone_is true s hs h1)
  have D13 := Lib.hid (zone_is false t ht h2)
  have C25 := Lib.hid (link_any s t ⟨#[]⟩ ⟨#[]⟩ 9 he hx hy)
  have C29 := Lib.hid (print_any s t ⟨#[]⟩ 2 hs ht ho hpe)
  have C27 := Lib.hid (shift_any s s 0 he2 hz)
  have C31 := Lib.hid (printShift_any s o2 0 hs ho2 hse)
  have C15 := Lib.hid (set_is true s hs h3)
  clear hall hall1 hf h1 h2 h3 he hx hy hpe ho he2 hz hse ho2 hs ht
  go_enter Tryd.func8, Tryd.ntmps8
  go_wp2_with fail
  refine (few23_is true [s, t] 2 rfl _ _ _ (strs_big [s, t] (cs := #[.string s, .string t]) (heap_alloc_at rfl) rfl HA.out) (by unfold maxLen; simp) HF.out).mono ?_
  rintro e w' ⟨rfl, rfl⟩
  have B0 := Lib.hid ((Below.refl W.heap.size W).alloc (Nat.le_refl _) (.cells #[.string s, .string t] 9))
  go_wp2_with fail
  refine (C13.out _).mono ?_
  rintro e V1 ⟨rfl, k1⟩
  have B1 := Lib.hid (B0.out.trans (k1.mono B0.out.size))
  clear k1
  go_wp2_with fail
  refine (D13.out _).mono ?_
  rintro e V2 ⟨rfl, k2⟩
  have B2 := Lib.hid (B1.out.trans (k2.mono B1.out.size))
  clear k2
  have A2 := Lib.hid (B2.out.alloc B2.out.size (.cells #[.string s, .string t] 9))
  go_wp2_with fail
  refine (C25.out _ _ (strs_big [s, t] (cs := #[.string s, .string t]) (heap_alloc_at rfl) rfl HA.out)).mono ?_
  rintro e V3 ⟨rfl, k3⟩
  have B3 := Lib.hid (A2.out.trans (k3.mono A2.out.size))
  clear k3
  have A3 := Lib.hid (B3.out.alloc B3.out.size (.cells #[.string ⟨#[]⟩, .string ⟨#[]⟩] 34))
  go_wp2_with fail
  refine (C29.out _).mono ?_
  rintro e V4 ⟨rfl, k4⟩
  have z4 : V3.heap.size < V4.heap.size := by have := k4.size; simp at this; omega
  have p4 : V4.cell? ⟨V3.heap.size, 0, none⟩ = some (.string ⟨#[]⟩) := (k4.cell (p := ⟨V3.heap.size, 0, none⟩) (by simp)).trans ((World.cell?_alloc_at _ _ _ _ rfl).trans rfl)
  have q4 : V4.cell? ⟨V3.heap.size, 1, none⟩ = some (.string ⟨#[]⟩) := (k4.cell (p := ⟨V3.heap.size, 1, none⟩) (by simp)).trans ((World.cell?_alloc_at _ _ _ _ rfl).trans rfl)
  have B4 := Lib.hid (A3.out.trans (k4.mono A3.out.size))
  clear k4
  have A4 := Lib.hid (B4.out.alloc B4.out.size (.cells #[.string s] 9))
  go_wp2_with fail
  refine (C27.out _ _ (strs_big [s] (cs := #[.string s]) (heap_alloc_at rfl) rfl HA1.out)).mono ?_
  rintro e V5 ⟨rfl, k5⟩
  have z5 : V3.heap.size < V5.heap.size := by have := k5.size; simp at this; omega
  have p5 : V5.cell? ⟨V3.heap.size, 0, none⟩ = some (.string ⟨#[]⟩) := (k5.cell (p := ⟨V3.heap.size, 0, none⟩) (by simp; omega)).trans ((World.cell?_alloc_past _ _ _ z4).trans p4)
  have q5 : V5.cell? ⟨V3.heap.size, 1, none⟩ = some (.string ⟨#[]⟩) := (k5.cell (p := ⟨V3.heap.size, 1, none⟩) (by simp; omega)).trans ((World.cell?_alloc_past _ _ _ z4).trans q4)
  have B5 := Lib.hid (A4.out.trans (k5.mono A4.out.size))
  clear k5 p4 q4 z4
  go_wp2_with fail
  refine (C31.out _).mono ?_
  rintro e V6 ⟨rfl, k6⟩
  have z6 : V3.heap.size < V6.heap.size := by have := k6.size; omega
  have p6 : V6.cell? ⟨V3.heap.size, 0, none⟩ = some (.string ⟨#[]⟩) := (k6.cell (p := ⟨V3.heap.size, 0, none⟩) z5).trans p5
  have q6 : V6.cell? ⟨V3.heap.size, 1, none⟩ = some (.string ⟨#[]⟩) := (k6.cell (p := ⟨V3.heap.size, 1, none⟩) z5).trans q5
  have B6 := Lib.hid (B5.out.trans (k6.mono B5.out.size))
  clear k6 p5 q5 z5
  go_wp2_with fail
  refine (C15.out _).mono ?_
  rintro e V7 ⟨rfl, k7⟩
  have z7 : V3.heap.size < V7.heap.size := by have := k7.size; omega
  have p7 : V7.cell? ⟨V3.heap.size, 0, none⟩ = some (.string ⟨#[]⟩) := (k7.cell (p := ⟨V3.heap.size, 0, none⟩) z6).trans p6
  have q7 : V7.cell? ⟨V3.heap.size, 1, none⟩ = some (.string ⟨#[]⟩) := (k7.cell (p := ⟨V3.heap.size, 1, none⟩) z6).trans q6
  have B7 := Lib.hid (B6.out.trans (k7.mono B6.out.size))
  clear k7 p6 q6 z6
  go_wp2_with fail
  refine (C15.out _).mono ?_
  rintro e V8 ⟨rfl, k8⟩
  have z8 : V3.heap.size < V8.heap.size := by have := k8.size; omega
  have p8 : V8.cell? ⟨V3.heap.size, 0, none⟩ = some (.string ⟨#[]⟩) := (k8.cell (p := ⟨V3.heap.size, 0, none⟩) z7).trans p7
  have q8 : V8.cell? ⟨V3.heap.size, 1, none⟩ = some (.string ⟨#[]⟩) := (k8.cell (p := ⟨V3.heap.size, 1, none⟩) z7).trans q7
  have B8 := Lib.hid (B7.out.trans (k8.mono B7.out.size))
  clear k8 p7 q7 z7
  go_wp2_with fail
  refine (C15.out _).mono ?_
  rintro e V9 ⟨rfl, k9⟩
  have z9 : V3.heap.size < V9.heap.size := by have := k9.size; omega
  have p9 : V9.cell? ⟨V3.heap.size, 0, none⟩ = some (.string ⟨#[]⟩) := (k9.cell (p := ⟨V3.heap.size, 0, none⟩) z8).trans p8
  have q9 : V9.cell? ⟨V3.heap.size, 1, none⟩ = some (.string ⟨#[]⟩) := (k9.cell (p := ⟨V3.heap.size, 1, none⟩) z8).trans q8
  have B9 := Lib.hid (B8.out.trans (k9.mono B8.out.size))
  clear k9 p8 q8 z8
  go_wp2_with fail
  refine (works24 _).mono ?_
  rintro e V11 ⟨rfl, k11⟩
  go_wp2
  go_ret
  exact ⟨rfl, B9.out.trans (k11.mono B9.out.size)⟩

set_option maxHeartbeats 4000000 in
theorem names_e (s t : ByteArray) (hs : s.size ≤ maxLen) (ht : t.size ≤ maxLen) (h1 : zoneOk s.data.toList = true) (h2 : zoneOk t.data.toList = true) (h3 : setOk s.data.toList = false) (W : World)
    (hf : ([s, t].all (fun s => decide (s.size ≤ 200)) && decide ([s, t].length ≤ 10)) = true) :
    Calls Tryd.prog 8 #[.string s, .string t] W fun e w' => e = .returned (.bool true) ∧ Below W.heap.size W w' := by
  have hall : ∀ x ∈ [s, t], x.size ≤ maxLen := by
    intro x hx
    simp at hx
    rcases hx with rfl | rfl <;> assumption
  have hall1 : ∀ x ∈ [s], x.size ≤ maxLen := by
    intro x hx
    simp at hx
    subst hx; assumption
  have he : namesE zoneOk [s, t] 2 = 0 := by rw [namesE2, h1, h2]; rfl
  have hx : lkT [s, t] = s := by unfold lkT; rw [he]; rfl
  have hy : lkN [s, t] = t := by unfold lkN; rw [he]; rfl
  have hpe : lineE zoneOk [s, t] = 0 := by unfold lineE; simp [h1, h2]
  obtain ⟨o, ho⟩ : ∃ o, bytesOf (lineL [76, 105, 110, 107] zoneOk [s, t]) = o := ⟨_, rfl⟩
  have he2 : namesE setOk [s] 1 = 9 := by rw [namesE1, h3]; rfl
  have hz : shV [s] = ⟨#[]⟩ := by unfold shV; rw [he2]; rfl
  have hse : lineE setOk [s] = 2 := by unfold lineE; simp [h3]
  have ho2 : bytesOf (lineL [83, 104, 105, 102, 116] setOk [s]) = ⟨#[]⟩ := by unfold lineL; simp [h3, bytesOf]
  have HA := Lib.hid hall
  have HA1 := Lib.hid hall1
  have HF := Lib.hid hf
  have C13 := Lib.hid (zone_is true s hs h1)
  have D13 := Lib.hid (zone_is true t ht h2)
  have C25 := Lib.hid (link_any s t s t 0 he hx hy)
  have C29 := Lib.hid (print_any s t o 0 hs ht ho hpe)
  have C27 := Lib.hid (shift_any s ⟨#[]⟩ 9 he2 hz)
  have C31 := Lib.hid (printShift_any s ⟨#[]⟩ 2 hs ho2 hse)
  have C15 := Lib.hid (set_is false s hs h3)
  have C33 := Lib.hid (join_any s t o h1 h2 ho)
  clear hall hall1 hf h1 h2 h3 he hx hy hpe ho he2 hz hse ho2 hs ht
  go_enter Tryd.func8, Tryd.ntmps8
  go_wp2_with fail
  refine (few23_is true [s, t] 2 rfl _ _ _ (strs_big [s, t] (cs := #[.string s, .string t]) (heap_alloc_at rfl) rfl HA.out) (by unfold maxLen; simp) HF.out).mono ?_
  rintro e w' ⟨rfl, rfl⟩
  have B0 := Lib.hid ((Below.refl W.heap.size W).alloc (Nat.le_refl _) (.cells #[.string s, .string t] 9))
  go_wp2_with fail
  refine (C13.out _).mono ?_
  rintro e V1 ⟨rfl, k1⟩
  have B1 := Lib.hid (B0.out.trans (k1.mono B0.out.size))
  clear k1
  go_wp2_with fail
  refine (D13.out _).mono ?_
  rintro e V2 ⟨rfl, k2⟩
  have B2 := Lib.hid (B1.out.trans (k2.mono B1.out.size))
  clear k2
  have A2 := Lib.hid (B2.out.alloc B2.out.size (.cells #[.string s, .string t] 9))
  go_wp2_with fail
  refine (C25.out _ _ (strs_big [s, t] (cs := #[.string s, .string t]) (heap_alloc_at rfl) rfl HA.out)).mono ?_
  rintro e V3 ⟨rfl, k3⟩
  have B3 := Lib.hid (A2.out.trans (k3.mono A2.out.size))
  clear k3
  have A3 := Lib.hid (B3.out.alloc B3.out.size (.cells #[.string s, .string t] 34))
  go_wp2_with fail
  refine (C29.out _).mono ?_
  rintro e V4 ⟨rfl, k4⟩
  have z4 : V3.heap.size < V4.heap.size := by have := k4.size; simp at this; omega
  have p4 : V4.cell? ⟨V3.heap.size, 0, none⟩ = some (.string s) := (k4.cell (p := ⟨V3.heap.size, 0, none⟩) (by simp)).trans ((World.cell?_alloc_at _ _ _ _ rfl).trans rfl)
  have q4 : V4.cell? ⟨V3.heap.size, 1, none⟩ = some (.string t) := (k4.cell (p := ⟨V3.heap.size, 1, none⟩) (by simp)).trans ((World.cell?_alloc_at _ _ _ _ rfl).trans rfl)
  have B4 := Lib.hid (A3.out.trans (k4.mono A3.out.size))
  clear k4
  have A4 := Lib.hid (B4.out.alloc B4.out.size (.cells #[.string s] 9))
  go_wp2_with fail
  refine (C27.out _ _ (strs_big [s] (cs := #[.string s]) (heap_alloc_at rfl) rfl HA1.out)).mono ?_
  rintro e V5 ⟨rfl, k5⟩
  have z5 : V3.heap.size < V5.heap.size := by have := k5.size; simp at this; omega
  have p5 : V5.cell? ⟨V3.heap.size, 0, none⟩ = some (.string s) := (k5.cell (p := ⟨V3.heap.size, 0, none⟩) (by simp; omega)).trans ((World.cell?_alloc_past _ _ _ z4).trans p4)
  have q5 : V5.cell? ⟨V3.heap.size, 1, none⟩ = some (.string t) := (k5.cell (p := ⟨V3.heap.size, 1, none⟩) (by simp; omega)).trans ((World.cell?_alloc_past _ _ _ z4).trans q4)
  have B5 := Lib.hid (A4.out.trans (k5.mono A4.out.size))
  clear k5 p4 q4 z4
  go_wp2_with fail
  refine (C31.out _).mono ?_
  rintro e V6 ⟨rfl, k6⟩
  have z6 : V3.heap.size < V6.heap.size := by have := k6.size; omega
  have p6 : V6.cell? ⟨V3.heap.size, 0, none⟩ = some (.string s) := (k6.cell (p := ⟨V3.heap.size, 0, none⟩) z5).trans p5
  have q6 : V6.cell? ⟨V3.heap.size, 1, none⟩ = some (.string t) := (k6.cell (p := ⟨V3.heap.size, 1, none⟩) z5).trans q5
  have B6 := Lib.hid (B5.out.trans (k6.mono B5.out.size))
  clear k6 p5 q5 z5
  go_wp2_with fail
  refine (C15.out _).mono ?_
  rintro e V7 ⟨rfl, k7⟩
  have z7 : V3.heap.size < V7.heap.size := by have := k7.size; omega
  have p7 : V7.cell? ⟨V3.heap.size, 0, none⟩ = some (.string s) := (k7.cell (p := ⟨V3.heap.size, 0, none⟩) z6).trans p6
  have q7 : V7.cell? ⟨V3.heap.size, 1, none⟩ = some (.string t) := (k7.cell (p := ⟨V3.heap.size, 1, none⟩) z6).trans q6
  have B7 := Lib.hid (B6.out.trans (k7.mono B6.out.size))
  clear k7 p6 q6 z6
  go_wp2_with fail
  refine (C15.out _).mono ?_
  rintro e V8 ⟨rfl, k8⟩
  have z8 : V3.heap.size < V8.heap.size := by have := k8.size; omega
  have p8 : V8.cell? ⟨V3.heap.size, 0, none⟩ = some (.string s) := (k8.cell (p := ⟨V3.heap.size, 0, none⟩) z7).trans p7
  have q8 : V8.cell? ⟨V3.heap.size, 1, none⟩ = some (.string t) := (k8.cell (p := ⟨V3.heap.size, 1, none⟩) z7).trans q7
  have B8 := Lib.hid (B7.out.trans (k8.mono B7.out.size))
  clear k8 p7 q7 z7
  go_wp2_with fail
  refine (C15.out _).mono ?_
  rintro e V9 ⟨rfl, k9⟩
  have z9 : V3.heap.size < V9.heap.size := by have := k9.size; omega
  have p9 : V9.cell? ⟨V3.heap.size, 0, none⟩ = some (.string s) := (k9.cell (p := ⟨V3.heap.size, 0, none⟩) z8).trans p8
  have q9 : V9.cell? ⟨V3.heap.size, 1, none⟩ = some (.string t) := (k9.cell (p := ⟨V3.heap.size, 1, none⟩) z8).trans q8
  have B9 := Lib.hid (B8.out.trans (k9.mono B8.out.size))
  clear k9 p8 q8 z8
  have A9 := Lib.hid (B9.out.alloc B9.out.size (.cells #[.string ⟨#[76, 105, 110, 107]⟩, .string s, .string t] 9))
  go_wp2_with fail
  refine (C33.out _ _ ?hb9 ?hc9).mono ?_
  case hb9 => simp
  case hc9 => exact heap_alloc_at rfl
  rintro e V10 ⟨rfl, k10⟩
  have B10 := Lib.hid (A9.out.trans (k10.mono A9.out.size))
  clear k10
  go_wp2_with fail
  refine (works24 _).mono ?_
  rintro e V11 ⟨rfl, k11⟩
  go_wp2
  go_ret
  exact ⟨rfl, B10.out.trans (k11.mono B10.out.size)⟩

set_option maxHeartbeats 4000000 in
theorem names_f (s t : ByteArray) (hs : s.size ≤ maxLen) (ht : t.size ≤ maxLen) (h1 : zoneOk s.data.toList = true) (h2 : zoneOk t.data.toList = true) (h3 : setOk s.data.toList = true) (W : World)
    (hf : ([s, t].all (fun s => decide (s.size ≤ 200)) && decide ([s, t].length ≤ 10)) = true) :
    Calls Tryd.prog 8 #[.string s, .string t] W fun e w' => e = .returned (.bool true) ∧ Below W.heap.size W w' := by
  have hall : ∀ x ∈ [s, t], x.size ≤ maxLen := by
    intro x hx
    simp at hx
    rcases hx with rfl | rfl <;> assumption
  have hall1 : ∀ x ∈ [s], x.size ≤ maxLen := by
    intro x hx
    simp at hx
    subst hx; assumption
  have he : namesE zoneOk [s, t] 2 = 0 := by rw [namesE2, h1, h2]; rfl
  have hx : lkT [s, t] = s := by unfold lkT; rw [he]; rfl
  have hy : lkN [s, t] = t := by unfold lkN; rw [he]; rfl
  have hpe : lineE zoneOk [s, t] = 0 := by unfold lineE; simp [h1, h2]
  obtain ⟨o, ho⟩ : ∃ o, bytesOf (lineL [76, 105, 110, 107] zoneOk [s, t]) = o := ⟨_, rfl⟩
  have he2 : namesE setOk [s] 1 = 0 := by rw [namesE1, h3]; rfl
  have hz : shV [s] = s := by unfold shV; rw [he2]; rfl
  have hse : lineE setOk [s] = 0 := by unfold lineE; simp [h3]
  obtain ⟨o2, ho2⟩ : ∃ o2, bytesOf (lineL [83, 104, 105, 102, 116] setOk [s]) = o2 := ⟨_, rfl⟩
  have HA := Lib.hid hall
  have HA1 := Lib.hid hall1
  have HF := Lib.hid hf
  have C13 := Lib.hid (zone_is true s hs h1)
  have D13 := Lib.hid (zone_is true t ht h2)
  have C25 := Lib.hid (link_any s t s t 0 he hx hy)
  have C29 := Lib.hid (print_any s t o 0 hs ht ho hpe)
  have C27 := Lib.hid (shift_any s s 0 he2 hz)
  have C31 := Lib.hid (printShift_any s o2 0 hs ho2 hse)
  have C15 := Lib.hid (set_is true s hs h3)
  have C33 := Lib.hid (join_any s t o h1 h2 ho)
  clear hall hall1 hf h1 h2 h3 he hx hy hpe ho he2 hz hse ho2 hs ht
  go_enter Tryd.func8, Tryd.ntmps8
  go_wp2_with fail
  refine (few23_is true [s, t] 2 rfl _ _ _ (strs_big [s, t] (cs := #[.string s, .string t]) (heap_alloc_at rfl) rfl HA.out) (by unfold maxLen; simp) HF.out).mono ?_
  rintro e w' ⟨rfl, rfl⟩
  have B0 := Lib.hid ((Below.refl W.heap.size W).alloc (Nat.le_refl _) (.cells #[.string s, .string t] 9))
  go_wp2_with fail
  refine (C13.out _).mono ?_
  rintro e V1 ⟨rfl, k1⟩
  have B1 := Lib.hid (B0.out.trans (k1.mono B0.out.size))
  clear k1
  go_wp2_with fail
  refine (D13.out _).mono ?_
  rintro e V2 ⟨rfl, k2⟩
  have B2 := Lib.hid (B1.out.trans (k2.mono B1.out.size))
  clear k2
  have A2 := Lib.hid (B2.out.alloc B2.out.size (.cells #[.string s, .string t] 9))
  go_wp2_with fail
  refine (C25.out _ _ (strs_big [s, t] (cs := #[.string s, .string t]) (heap_alloc_at rfl) rfl HA.out)).mono ?_
  rintro e V3 ⟨rfl, k3⟩
  have B3 := Lib.hid (A2.out.trans (k3.mono A2.out.size))
  clear k3
  have A3 := Lib.hid (B3.out.alloc B3.out.size (.cells #[.string s, .string t] 34))
  go_wp2_with fail
  refine (C29.out _).mono ?_
  rintro e V4 ⟨rfl, k4⟩
  have z4 : V3.heap.size < V4.heap.size := by have := k4.size; simp at this; omega
  have p4 : V4.cell? ⟨V3.heap.size, 0, none⟩ = some (.string s) := (k4.cell (p := ⟨V3.heap.size, 0, none⟩) (by simp)).trans ((World.cell?_alloc_at _ _ _ _ rfl).trans rfl)
  have q4 : V4.cell? ⟨V3.heap.size, 1, none⟩ = some (.string t) := (k4.cell (p := ⟨V3.heap.size, 1, none⟩) (by simp)).trans ((World.cell?_alloc_at _ _ _ _ rfl).trans rfl)
  have B4 := Lib.hid (A3.out.trans (k4.mono A3.out.size))
  clear k4
  have A4 := Lib.hid (B4.out.alloc B4.out.size (.cells #[.string s] 9))
  go_wp2_with fail
  refine (C27.out _ _ (strs_big [s] (cs := #[.string s]) (heap_alloc_at rfl) rfl HA1.out)).mono ?_
  rintro e V5 ⟨rfl, k5⟩
  have z5 : V3.heap.size < V5.heap.size := by have := k5.size; simp at this; omega
  have p5 : V5.cell? ⟨V3.heap.size, 0, none⟩ = some (.string s) := (k5.cell (p := ⟨V3.heap.size, 0, none⟩) (by simp; omega)).trans ((World.cell?_alloc_past _ _ _ z4).trans p4)
  have q5 : V5.cell? ⟨V3.heap.size, 1, none⟩ = some (.string t) := (k5.cell (p := ⟨V3.heap.size, 1, none⟩) (by simp; omega)).trans ((World.cell?_alloc_past _ _ _ z4).trans q4)
  have B5 := Lib.hid (A4.out.trans (k5.mono A4.out.size))
  clear k5 p4 q4 z4
  go_wp2_with fail
  refine (C31.out _).mono ?_
  rintro e V6 ⟨rfl, k6⟩
  have z6 : V3.heap.size < V6.heap.size := by have := k6.size; omega
  have p6 : V6.cell? ⟨V3.heap.size, 0, none⟩ = some (.string s) := (k6.cell (p := ⟨V3.heap.size, 0, none⟩) z5).trans p5
  have q6 : V6.cell? ⟨V3.heap.size, 1, none⟩ = some (.string t) := (k6.cell (p := ⟨V3.heap.size, 1, none⟩) z5).trans q5
  have B6 := Lib.hid (B5.out.trans (k6.mono B5.out.size))
  clear k6 p5 q5 z5
  go_wp2_with fail
  refine (C15.out _).mono ?_
  rintro e V7 ⟨rfl, k7⟩
  have z7 : V3.heap.size < V7.heap.size := by have := k7.size; omega
  have p7 : V7.cell? ⟨V3.heap.size, 0, none⟩ = some (.string s) := (k7.cell (p := ⟨V3.heap.size, 0, none⟩) z6).trans p6
  have q7 : V7.cell? ⟨V3.heap.size, 1, none⟩ = some (.string t) := (k7.cell (p := ⟨V3.heap.size, 1, none⟩) z6).trans q6
  have B7 := Lib.hid (B6.out.trans (k7.mono B6.out.size))
  clear k7 p6 q6 z6
  go_wp2_with fail
  refine (C15.out _).mono ?_
  rintro e V8 ⟨rfl, k8⟩
  have z8 : V3.heap.size < V8.heap.size := by have := k8.size; omega
  have p8 : V8.cell? ⟨V3.heap.size, 0, none⟩ = some (.string s) := (k8.cell (p := ⟨V3.heap.size, 0, none⟩) z7).trans p7
  have q8 : V8.cell? ⟨V3.heap.size, 1, none⟩ = some (.string t) := (k8.cell (p := ⟨V3.heap.size, 1, none⟩) z7).trans q7
  have B8 := Lib.hid (B7.out.trans (k8.mono B7.out.size))
  clear k8 p7 q7 z7
  go_wp2_with fail
  refine (C15.out _).mono ?_
  rintro e V9 ⟨rfl, k9⟩
  have z9 : V3.heap.size < V9.heap.size := by have := k9.size; omega
  have p9 : V9.cell? ⟨V3.heap.size, 0, none⟩ = some (.string s) := (k9.cell (p := ⟨V3.heap.size, 0, none⟩) z8).trans p8
  have q9 : V9.cell? ⟨V3.heap.size, 1, none⟩ = some (.string t) := (k9.cell (p := ⟨V3.heap.size, 1, none⟩) z8).trans q8
  have B9 := Lib.hid (B8.out.trans (k9.mono B8.out.size))
  clear k9 p8 q8 z8
  have A9 := Lib.hid (B9.out.alloc B9.out.size (.cells #[.string ⟨#[76, 105, 110, 107]⟩, .string s, .string t] 9))
  go_wp2_with fail
  refine (C33.out _ _ ?hb9 ?hc9).mono ?_
  case hb9 => simp
  case hc9 => exact heap_alloc_at rfl
  rintro e V10 ⟨rfl, k10⟩
  have B10 := Lib.hid (A9.out.trans (k10.mono A9.out.size))
  clear k10
  go_wp2_with fail
  refine (works24 _).mono ?_
  rintro e V11 ⟨rfl, k11⟩
  go_wp2
  go_ret
  exact ⟨rfl, B10.out.trans (k11.mono B10.out.size)⟩

theorem linklineNames_walk (s : ByteArray) (hs : s.size ≤ maxLen) (t : ByteArray) (ht : t.size ≤ maxLen) (W : World) :
    Calls Tryd.prog 8 #[.string s, .string t] W fun e w' => e = .returned (.bool true) ∧ Below W.heap.size W w' := by
  cases hf : ([s, t].all (fun s => decide (s.size ≤ 200)) && decide ([s, t].length ≤ 10))
  · have hall : ∀ x ∈ [s, t], x.size ≤ maxLen := by
      intro x hx
      simp at hx
      rcases hx with rfl | rfl <;> assumption
    have HA := Lib.hid hall
    have HF := Lib.hid hf
    clear hall hf
    go_enter Tryd.func8, Tryd.ntmps8
    go_wp2_with fail
    refine (few23_is false [s, t] 2 rfl _ _ _ (strs_big [s, t] (cs := #[.string s, .string t]) (heap_alloc_at rfl) rfl HA.out) (by unfold maxLen; simp) HF.out).mono ?_
    rintro e w' ⟨rfl, rfl⟩
    have B0 := Lib.hid ((Below.refl W.heap.size W).alloc (Nat.le_refl _) (.cells #[.string s, .string t] 9))
    go_wp2_with fail
    refine (works24 _).mono ?_
    rintro e V11 ⟨rfl, k11⟩
    go_wp2
    go_ret
    exact ⟨rfl, B0.out.trans (k11.mono B0.out.size)⟩
  · cases h3 : setOk s.data.toList
    · cases h1 : zoneOk s.data.toList
      · exact names_a s t hs ht h1 h3 W hf
      · cases h2 : zoneOk t.data.toList
        · exact names_c s t hs ht h1 h2 h3 W hf
        · exact names_e s t hs ht h1 h2 h3 W hf
    · cases h1 : zoneOk s.data.toList
      · exact names_b s t hs ht h1 h3 W hf
      · cases h2 : zoneOk t.data.toList
        · exact names_d s t hs ht h1 h2 h3 W hf
        · exact names_f s t hs ht h1 h2 h3 W hf

namespace linklineNames
theorem own : ownKnob Tryd.prog.godebug = none := by kernel_rfl
set_option maxRecDepth 100000 in
theorem lifted (os : Os) (started : os.Started) (H : Type) (enc : TypeId × Value → H) :
    ReturnsInHanded {} Tryd.checked os 8 .any (fun w args => (Rows.linklineNamesSpec.pre enc Tryd.prog Tryd.f8 Rows.linklineNamesRow.domain false w args ∧ laidMetH Tryd.prog Rows.linklineNamesRow.laid w) ∧ sizedMet enc Tryd.prog Tryd.f8 (OpenSpec.ofChange Rows.linklineNamesSpec) false w args)
      (Rows.linklineNamesSpec.post enc Tryd.prog Tryd.f8 false true false false) := by
  refine returnsInHanded_of_change_and (C := Tryd.checked) (X := fun w _ => laidMetH Tryd.prog Rows.linklineNamesRow.laid w) (fun _ _ _ hh h => h.of_heap hh) own started (by kernel_rfl) Tryd.func8
    (ChangeSpec.witness_shaped (enc := enc) (C := Tryd.checked) (os := os) (X := fun w _ => laidMetH Tryd.prog Rows.linklineNamesRow.laid w) false (World.laidAll Tryd.prog os Rows.linklineNamesRow.laid) #[.string ByteArray.empty, .string ByteArray.empty] 8 (World.laidAll_os _ _ _)
      (World.shaped_of_ZipB (by kernel_rfl) (by kernel_rfl)) (by kernel_rfl) (by kernel_rfl) (by kernel_rfl)
      (by rw [MakeChecks.laidMetH_plain _ _ _ (by kernel_rfl)]; exact laidMet_laidAll _ (by kernel_rfl) (by kernel_rfl))) ?_
  intro W base args ds gs before hval0 hW _ _ _ _
  have hval : ∀ (j : Nat) t v, Tryd.f8.params[j]? = some t → args[j]? = some v → Value.okWide Tryd.prog W .any base t v := hval0
  have hW' := hW
  obtain ⟨p, q, hA0, hV, rfl, _, _⟩ := hW
  have hA : DataW.TrodAll enc Tryd.prog W 0 (fun _ => true) true Tryd.f8.params.toList args.toList ds p := hA0
  rw [Tryd.params8] at hA hval
  obtain ⟨v0, vs0, d0, ds0, p0, q0, hargs, rfl, rfl, h0, r0⟩ := trodAll_cons hA
  obtain ⟨v1, vs1, d1, ds1, p1, q1, rfl, rfl, rfl, h1, r1⟩ := trodAll_cons r0
  obtain ⟨rfl, rfl, rfl⟩ := trodAll_nil r1
  obtain rfl : args = #[v0, v1] := by cases args; simp_all
  obtain ⟨rfl, rfl⟩ := trodVars_none hV
  obtain ⟨s0, rfl, rfl, rfl, hs0⟩ := open_string Tryd.underlying9 (hval 0 9 v0 rfl rfl) h0
  obtain ⟨s1, rfl, rfl, rfl, hs1⟩ := open_string Tryd.underlying9 (hval 1 9 v1 rfl rfl) h1
  refine (linklineNames_walk s0 hs0 s1 hs1 W).mono fun e W' ⟨he, hB⟩ => ?_
  subst he
  refine ⟨_, rfl, post_law (by kernel_rfl) ?_ rfl hW' rfl rfl Tryd.underlying4 hB⟩
  rw [Tryd.params8]
  intro t ht
  have hall : ([9, 9].all fun u => Tryd.prog.readableRec u && decide (u < Tryd.prog.types.size)) = true := by kernel_rfl
  have h1 := List.all_eq_true.1 hall t ht
  have h2 : Tryd.prog.readableRec t = true ∧ t < Tryd.prog.types.size := by simpa using h1
  exact h2

theorem said : Rows.LinklineNamesSaid :=
  OpenClaim.holds_of_wide 8 Tryd.f8 rfl rfl rfl rfl rfl rfl rfl ⟨rfl, rfl, rfl, rfl, rfl⟩ rfl rfl rfl rfl rfl (by kernel_rfl) Tryd.func8 (by kernel_rfl)
    (of_decide_eq_true (by kernel_rfl)) (by unfold Func.isWrapper; first | (rw [if_pos (by decide +kernel)]; kernel_rfl) | (rw [if_neg (by decide +kernel)]; exact ⟨rfl, rfl⟩))
    (fun os started H enc _ => lifted os started H enc)
theorem plain (f : FuncId) (fn : Func) (hf : Tryd.pinned.checked.prog.funcNamed "analemma/analemmalaw12.LinklineNames" = some f) (hfn : Tryd.pinned.checked.prog.funcs[f]? = some fn) :
    false = Tryd.pinned.checked.prog.looks [] ∧ ∀ (j : Nat) t, fn.params[j]? = some t → Tryd.pinned.checked.prog.wantsStandIn t = false := by
  obtain rfl : f = 8 := Option.some.inj ((show Tryd.prog.funcNamed "analemma/analemmalaw12.LinklineNames" = some 8 by kernel_rfl).symm.trans hf) |>.symm
  obtain rfl : fn = Tryd.f8 := (Option.some.inj (Tryd.func8.symm.trans hfn)).symm
  refine ⟨by kernel_rfl, fun j t ht => ?_⟩
  rw [Tryd.params8] at ht
  have hm : t ∈ [9, 9] := by simpa using Array.mem_of_getElem? ht
  have hall : ([9, 9].all fun u => !Tryd.prog.wantsStandIn u) = true := by kernel_rfl
  exact (show Tryd.prog.wantsStandIn t = false by simpa using List.all_eq_true.1 hall t hm)
theorem card : Rows.LinklineNamesCardSaid :=
  Claim7.holds_tied_plain_at .later [] _ _ _ _ said (fun _ h => by cases h) (by kernel_rfl) (fun _ h => by cases h) linklineNames_row_tie rfl ⟨rfl, rfl⟩ (by kernel_rfl) rfl plain (by kernel_rfl)
end linklineNames
#print axioms linklineNames.card
end Go.Proofs.YticmkjcaekhgpaaDoor
