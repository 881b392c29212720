/- The law LinklineNumbers returns true for every slice of strings, and its tied card holds; no condition beyond the row itself. -/
import Derived.Test.YticmkjcaekhgpaaDoorLinkE
namespace Go.Proofs.YticmkjcaekhgpaaDoor
open Go.ChangeShapes Go.WideShapes Go.ChangeAt Go.RowKit

theorem lk_bad {S : List ByteArray} (h : namesE zoneOk S 2 ≠ 0) : lkT S = ⟨#[]⟩ ∧ lkN S = ⟨#[]⟩ := by
  unfold lkT lkN; rw [if_neg h, if_neg h]; exact ⟨rfl, rfl⟩
theorem sh_bad {S : List ByteArray} (h : namesE setOk S 1 ≠ 0) : shV S = ⟨#[]⟩ := by
  unfold shV; rw [if_neg h]; rfl
theorem names_len {p : List UInt8 → Bool} {S : List ByteArray} {n : Nat} (h : S.length ≠ n) : namesE p S n = 5 := by unfold namesE; rw [if_neg h]
theorem names_bad {p : List UInt8 → Bool} {S : List ByteArray} {n : Nat} (h : S.length = n) (hb : ¬ S.all (fun s => p s.data.toList) = true) : namesE p S n = 9 := by unfold namesE; rw [if_pos h, if_neg hb]
theorem names_good {p : List UInt8 → Bool} {S : List ByteArray} {n : Nat} (h : S.length = n) (hb : S.all (fun s => p s.data.toList) = true) : namesE p S n = 0 := by unfold namesE; rw [if_pos h, if_pos hb]

set_option maxHeartbeats 2000000 in
theorem numbers_A (s0 s1 : ByteArray) (a : Option Addr) (c : Nat) (W : World) (hS : StrsAt W a [s0, s1]) (hl : [s0, s1].length ≤ maxLen) (hf : ([s0, s1].all (fun s => decide (s.size ≤ 200)) && decide ([s0, s1].length ≤ 10)) = true) (hb : [s0, s1].all (fun s => zoneOk s.data.toList) = true) :
    Calls Tryd.prog 9 #[.slice a 2 c] W fun e w' => e = .returned (.bool true) ∧ Below W.heap.size W w' := by
  have c23 := few23 [s0, s1] a c W hS hl
  rw [hf] at c23
  have c25 := fun V h => link25 [s0, s1] a c V h hl
  have c27 := fun V h => shift27 [s0, s1] a c V h hl
  have he : namesE zoneOk [s0, s1] 2 = 0 := names_good rfl hb
  have hx : lkT [s0, s1] = s0 := by unfold lkT; rw [if_pos he]; rfl
  have hy : lkN [s0, s1] = s1 := by unfold lkN; rw [if_pos he]; rfl
  have he2 : namesE setOk [s0, s1] 1 = 5 := names_len (by simp)
  have hz : shV [s0, s1] = ⟨#[]⟩ := sh_bad (by rw [he2]; omega)
  rw [hx, hy, he] at c25
  rw [hz, he2] at c27
  have HF := Lib.hid c23
  have C25 := Lib.hid c25
  have C27 := Lib.hid c27
  have HS := Lib.hid hS
  clear hx hy he hz he2 c23 c25 c27 hS hf hl
  go_enter Tryd.func9, Tryd.ntmps9
  go_wp2_with fail
  refine HF.out.mono ?_
  rintro e w' ⟨rfl, rfl⟩
  go_wp2_with fail
  refine (C25.out _ HS.out).mono ?_
  rintro e V1 ⟨rfl, h1⟩
  go_wp2_with fail
  have b1 : Below W.heap.size W (V1.alloc (.cells #[.string s0, .string s1] 34)) := h1.alloc h1.size _
  refine (C27.out _ (HS.out.keep b1)).mono ?_
  rintro e V2 ⟨rfl, h2⟩
  have p0 : V2.cell? ⟨V1.heap.size, 0, none⟩ = some (.string s0) := (h2.cell (p := ⟨V1.heap.size, 0, none⟩) (by simp)).trans ((World.cell?_alloc_at _ _ _ _ rfl).trans rfl)
  have p1 : V2.cell? ⟨V1.heap.size, 1, none⟩ = some (.string s1) := (h2.cell (p := ⟨V1.heap.size, 1, none⟩) (by simp)).trans ((World.cell?_alloc_at _ _ _ _ rfl).trans rfl)
  have b2 : Below W.heap.size W V2 := b1.trans (h2.mono (by simp; have := h1.size; omega))
  clear h2
  go_wp2_with fail
  refine (works24 _).mono ?_
  rintro e V4 ⟨rfl, h4⟩
  go_wp2
  go_ret
  exact ⟨rfl, b2.trans (h4.mono b2.size)⟩

set_option maxHeartbeats 2000000 in
theorem numbers_B (s0 s1 : ByteArray) (a : Option Addr) (c : Nat) (W : World) (hS : StrsAt W a [s0, s1]) (hl : [s0, s1].length ≤ maxLen) (hf : ([s0, s1].all (fun s => decide (s.size ≤ 200)) && decide ([s0, s1].length ≤ 10)) = true) (hb : ¬ [s0, s1].all (fun s => zoneOk s.data.toList) = true) :
    Calls Tryd.prog 9 #[.slice a 2 c] W fun e w' => e = .returned (.bool true) ∧ Below W.heap.size W w' := by
  have c23 := few23 [s0, s1] a c W hS hl
  rw [hf] at c23
  have c25 := fun V h => link25 [s0, s1] a c V h hl
  have c27 := fun V h => shift27 [s0, s1] a c V h hl
  have he : namesE zoneOk [s0, s1] 2 = 9 := names_bad rfl hb
  obtain ⟨hx, hy⟩ := lk_bad (S := [s0, s1]) (by rw [he]; omega)
  have he2 : namesE setOk [s0, s1] 1 = 5 := names_len (by simp)
  have hz : shV [s0, s1] = ⟨#[]⟩ := sh_bad (by rw [he2]; omega)
  rw [hx, hy, he] at c25
  rw [hz, he2] at c27
  have HF := Lib.hid c23
  have C25 := Lib.hid c25
  have C27 := Lib.hid c27
  have HS := Lib.hid hS
  clear hx hy he hz he2 c23 c25 c27 hS hf hl
  go_enter Tryd.func9, Tryd.ntmps9
  go_wp2_with fail
  refine HF.out.mono ?_
  rintro e w' ⟨rfl, rfl⟩
  go_wp2_with fail
  refine (C25.out _ HS.out).mono ?_
  rintro e V1 ⟨rfl, h1⟩
  go_wp2_with fail
  have b1 : Below W.heap.size W (V1.alloc (.cells #[.string ⟨#[]⟩, .string ⟨#[]⟩] 34)) := h1.alloc h1.size _
  refine (C27.out _ (HS.out.keep b1)).mono ?_
  rintro e V2 ⟨rfl, h2⟩
  have p0 : V2.cell? ⟨V1.heap.size, 0, none⟩ = some (.string ⟨#[]⟩) := (h2.cell (p := ⟨V1.heap.size, 0, none⟩) (by simp)).trans ((World.cell?_alloc_at _ _ _ _ rfl).trans rfl)
  have p1 : V2.cell? ⟨V1.heap.size, 1, none⟩ = some (.string ⟨#[]⟩) := (h2.cell (p := ⟨V1.heap.size, 1, none⟩) (by simp)).trans ((World.cell?_alloc_at _ _ _ _ rfl).trans rfl)
  have b2 : Below W.heap.size W V2 := b1.trans (h2.mono (by simp; have := h1.size; omega))
  clear h2
  go_wp2_with fail
  refine (works24 _).mono ?_
  rintro e V4 ⟨rfl, h4⟩
  go_wp2
  go_ret
  exact ⟨rfl, b2.trans (h4.mono b2.size)⟩

set_option maxHeartbeats 2000000 in
theorem numbers_C (s0 : ByteArray) (a : Option Addr) (c : Nat) (W : World) (hS : StrsAt W a [s0]) (hl : [s0].length ≤ maxLen) (hf : ([s0].all (fun s => decide (s.size ≤ 200)) && decide ([s0].length ≤ 10)) = true) (hb : [s0].all (fun s => setOk s.data.toList) = true) :
    Calls Tryd.prog 9 #[.slice a 1 c] W fun e w' => e = .returned (.bool true) ∧ Below W.heap.size W w' := by
  have c23 := few23 [s0] a c W hS hl
  rw [hf] at c23
  have c25 := fun V h => link25 [s0] a c V h hl
  have c27 := fun V h => shift27 [s0] a c V h hl
  have he : namesE zoneOk [s0] 2 = 5 := names_len (by simp)
  obtain ⟨hx, hy⟩ := lk_bad (S := [s0]) (by rw [he]; omega)
  have he2 : namesE setOk [s0] 1 = 0 := names_good rfl hb
  have hz : shV [s0] = s0 := by unfold shV; rw [if_pos he2]; rfl
  rw [hx, hy, he] at c25
  rw [hz, he2] at c27
  have HF := Lib.hid c23
  have C25 := Lib.hid c25
  have C27 := Lib.hid c27
  have HS := Lib.hid hS
  clear hx hy he hz he2 c23 c25 c27 hS hf hl
  go_enter Tryd.func9, Tryd.ntmps9
  go_wp2_with fail
  refine HF.out.mono ?_
  rintro e w' ⟨rfl, rfl⟩
  go_wp2_with fail
  refine (C25.out _ HS.out).mono ?_
  rintro e V1 ⟨rfl, h1⟩
  go_wp2_with fail
  have b1 : Below W.heap.size W (V1.alloc (.cells #[.string ⟨#[]⟩, .string ⟨#[]⟩] 34)) := h1.alloc h1.size _
  refine (C27.out _ (HS.out.keep b1)).mono ?_
  rintro e V2 ⟨rfl, h2⟩
  have p0 : V2.cell? ⟨V1.heap.size, 0, none⟩ = some (.string ⟨#[]⟩) := (h2.cell (p := ⟨V1.heap.size, 0, none⟩) (by simp)).trans ((World.cell?_alloc_at _ _ _ _ rfl).trans rfl)
  have p1 : V2.cell? ⟨V1.heap.size, 1, none⟩ = some (.string ⟨#[]⟩) := (h2.cell (p := ⟨V1.heap.size, 1, none⟩) (by simp)).trans ((World.cell?_alloc_at _ _ _ _ rfl).trans rfl)
  have b2 : Below W.heap.size W V2 := b1.trans (h2.mono (by simp; have := h1.size; omega))
  clear h2
  go_wp2_with fail
  refine (works24 _).mono ?_
  rintro e V4 ⟨rfl, h4⟩
  go_wp2
  go_ret
  exact ⟨rfl, b2.trans (h4.mono b2.size)⟩

set_option maxHeartbeats 2000000 in
theorem numbers_D (s0 : ByteArray) (a : Option Addr) (c : Nat) (W : World) (hS : StrsAt W a [s0]) (hl : [s0].length ≤ maxLen) (hf : ([s0].all (fun s => decide (s.size ≤ 200)) && decide ([s0].length ≤ 10)) = true) (hb : ¬ [s0].all (fun s => setOk s.data.toList) = true) :
    Calls Tryd.prog 9 #[.slice a 1 c] W fun e w' => e = .returned (.bool true) ∧ Below W.heap.size W w' := by
  have c23 := few23 [s0] a c W hS hl
  rw [hf] at c23
  have c25 := fun V h => link25 [s0] a c V h hl
  have c27 := fun V h => shift27 [s0] a c V h hl
  have he : namesE zoneOk [s0] 2 = 5 := names_len (by simp)
  obtain ⟨hx, hy⟩ := lk_bad (S := [s0]) (by rw [he]; omega)
  have he2 : namesE setOk [s0] 1 = 9 := names_bad rfl hb
  have hz : shV [s0] = ⟨#[]⟩ := sh_bad (by rw [he2]; omega)
  rw [hx, hy, he] at c25
  rw [hz, he2] at c27
  have HF := Lib.hid c23
  have C25 := Lib.hid c25
  have C27 := Lib.hid c27
  have HS := Lib.hid hS
  clear hx hy he hz he2 c23 c25 c27 hS hf hl
  go_enter Tryd.func9, Tryd.ntmps9
  go_wp2_with fail
  refine HF.out.mono ?_
  rintro e w' ⟨rfl, rfl⟩
  go_wp2_with fail
  refine (C25.out _ HS.out).mono ?_
  rintro e V1 ⟨rfl, h1⟩
  go_wp2_with fail
  have b1 : Below W.heap.size W (V1.alloc (.cells #[.string ⟨#[]⟩, .string ⟨#[]⟩] 34)) := h1.alloc h1.size _
  refine (C27.out _ (HS.out.keep b1)).mono ?_
  rintro e V2 ⟨rfl, h2⟩
  have p0 : V2.cell? ⟨V1.heap.size, 0, none⟩ = some (.string ⟨#[]⟩) := (h2.cell (p := ⟨V1.heap.size, 0, none⟩) (by simp)).trans ((World.cell?_alloc_at _ _ _ _ rfl).trans rfl)
  have p1 : V2.cell? ⟨V1.heap.size, 1, none⟩ = some (.string ⟨#[]⟩) := (h2.cell (p := ⟨V1.heap.size, 1, none⟩) (by simp)).trans ((World.cell?_alloc_at _ _ _ _ rfl).trans rfl)
  have b2 : Below W.heap.size W V2 := b1.trans (h2.mono (by simp; have := h1.size; omega))
  clear h2
  go_wp2_with fail
  refine (works24 _).mono ?_
  rintro e V4 ⟨rfl, h4⟩
  go_wp2
  go_ret
  exact ⟨rfl, b2.trans (h4.mono b2.size)⟩

set_option maxHeartbeats 2000000 in
theorem numbers_E (S : List ByteArray) (a : Option Addr) (c : Nat) (W : World) (hS : StrsAt W a S) (hl : S.length ≤ maxLen) (hf : (S.all (fun s => decide (s.size ≤ 200)) && decide (S.length ≤ 10)) = true) (h2 : S.length ≠ 2) (h1 : S.length ≠ 1) :
    Calls Tryd.prog 9 #[.slice a S.length c] W fun e w' => e = .returned (.bool true) ∧ Below W.heap.size W w' := by
  have c23 := few23 S a c W hS hl
  rw [hf] at c23
  have c25 := fun V h => link25 S a c V h hl
  have c27 := fun V h => shift27 S a c V h hl
  have hl' : S.length ≤ 2 ^ 63 - 1 := hl
  have n2 : ((S.length : Int) != 2) = true := by simp; omega
  have n1 : ((S.length : Int) != 1) = true := by simp; omega
  have he : namesE zoneOk S 2 = 5 := names_len h2
  obtain ⟨hx, hy⟩ := lk_bad (S := S) (by rw [he]; omega)
  have he2 : namesE setOk S 1 = 5 := names_len h1
  have hz : shV S = ⟨#[]⟩ := sh_bad (by rw [he2]; omega)
  clear h1 h2
  rw [hx, hy, he] at c25
  rw [hz, he2] at c27
  have HF := Lib.hid c23
  have C25 := Lib.hid c25
  have C27 := Lib.hid c27
  have HS := Lib.hid hS
  clear hx hy he hz he2 c23 c25 c27 hS hf hl
  go_enter Tryd.func9, Tryd.ntmps9
  go_wp2_with fail
  refine HF.out.mono ?_
  rintro e w' ⟨rfl, rfl⟩
  go_wp2_with fail
  refine (C25.out _ HS.out).mono ?_
  rintro e V1 ⟨rfl, h1⟩
  go_wp2_with fail
  have b1 : Below W.heap.size W (V1.alloc (.cells #[.string ⟨#[]⟩, .string ⟨#[]⟩] 34)) := h1.alloc h1.size _
  refine (C27.out _ (HS.out.keep b1)).mono ?_
  rintro e V2 ⟨rfl, h2⟩
  have p0 : V2.cell? ⟨V1.heap.size, 0, none⟩ = some (.string ⟨#[]⟩) := (h2.cell (p := ⟨V1.heap.size, 0, none⟩) (by simp)).trans ((World.cell?_alloc_at _ _ _ _ rfl).trans rfl)
  have p1 : V2.cell? ⟨V1.heap.size, 1, none⟩ = some (.string ⟨#[]⟩) := (h2.cell (p := ⟨V1.heap.size, 1, none⟩) (by simp)).trans ((World.cell?_alloc_at _ _ _ _ rfl).trans rfl)
  have b2 : Below W.heap.size W V2 := b1.trans (h2.mono (by simp; have := h1.size; omega))
  clear h2
  go_wp2_with fail
  refine (works24 _).mono ?_
  rintro e V4 ⟨rfl, h4⟩
  go_wp2
  go_ret
  exact ⟨rfl, b2.trans (h4.mono b2.size)⟩

theorem two_of {S : List ByteArray} (h : S.length = 2) : ∃ x y, S = [x, y] := by
  match S, h with
  | [x, y], _ => exact ⟨x, y, rfl⟩
theorem one_of {S : List ByteArray} (h : S.length = 1) : ∃ x, S = [x] := by
  match S, h with
  | [x], _ => exact ⟨x, rfl⟩
theorem linklineNumbers_walk (a : Option Addr) (c : Nat) (S : List ByteArray) (hl : S.length ≤ maxLen) (W : World) (hS : StrsAt W a S) :
    Calls Tryd.prog 9 #[.slice a S.length c] W fun e w' => e = .returned (.bool true) ∧ Below W.heap.size W w' := by
  cases hf : (S.all (fun s => decide (s.size ≤ 200)) && decide (S.length ≤ 10))
  · have hfew := few23 S a c W hS hl
    rw [hf] at hfew
    have HF := Lib.hid hfew
    clear hfew hf hS
    go_enter Tryd.func9, Tryd.ntmps9
    go_wp2_with fail
    refine HF.out.mono ?_
    rintro e w' ⟨rfl, rfl⟩
    go_wp2_with fail
    refine (works24 _).mono ?_
    rintro e w1 ⟨rfl, h1⟩
    go_wp2
    go_ret
    exact ⟨rfl, h1⟩
  · by_cases h2 : S.length = 2
    · obtain ⟨x, y, rfl⟩ := two_of h2
      by_cases hb : [x, y].all (fun s => zoneOk s.data.toList) = true
      · exact numbers_A x y a c W hS hl hf hb
      · exact numbers_B x y a c W hS hl hf hb
    · by_cases h1 : S.length = 1
      · obtain ⟨x, rfl⟩ := one_of h1
        by_cases hb : [x].all (fun s => setOk s.data.toList) = true
        · exact numbers_C x a c W hS hl hf hb
        · exact numbers_D x a c W hS hl hf hb
      · exact numbers_E S a c W hS hl hf h2 h1

namespace linklineNumbers
theorem own : ownKnob Tryd.prog.godebug = none := by kernel_rfl
set_option maxRecDepth 100000 in
theorem lifted (os : Os) (started : os.Started) (H : Type) (enc : TypeId × Value → H) :
    ReturnsInHanded {} Tryd.checked os 9 .any (fun w args => (Rows.linklineNumbersSpec.pre enc Tryd.prog Tryd.f9 Rows.linklineNumbersRow.domain false w args ∧ laidMetH Tryd.prog Rows.linklineNumbersRow.laid w) ∧ sizedMet enc Tryd.prog Tryd.f9 (OpenSpec.ofChange Rows.linklineNumbersSpec) false w args)
      (Rows.linklineNumbersSpec.post enc Tryd.prog Tryd.f9 false true false false) := by
  refine returnsInHanded_of_change_and (C := Tryd.checked) (X := fun w _ => laidMetH Tryd.prog Rows.linklineNumbersRow.laid w) (fun _ _ _ hh h => h.of_heap hh) own started (by kernel_rfl) Tryd.func9
    (ChangeSpec.witness_shaped (enc := enc) (C := Tryd.checked) (os := os) (X := fun w _ => laidMetH Tryd.prog Rows.linklineNumbersRow.laid w) false (World.laidAll Tryd.prog os Rows.linklineNumbersRow.laid) #[.slice none 0 0] 8 (World.laidAll_os _ _ _)
      (World.shaped_of_ZipB (by kernel_rfl) (by kernel_rfl)) (by kernel_rfl) (by kernel_rfl) (by kernel_rfl)
      (by rw [MakeChecks.laidMetH_plain _ _ _ (by kernel_rfl)]; exact laidMet_laidAll _ (by kernel_rfl) (by kernel_rfl))) ?_
  intro W base args ds gs before hval0 hW _ _ _ _
  have hval : ∀ (j : Nat) t v, Tryd.f9.params[j]? = some t → args[j]? = some v → Value.okWide Tryd.prog W .any base t v := hval0
  have hW' := hW
  obtain ⟨p, q, hA0, hV, rfl, _, _⟩ := hW
  have hA : DataW.TrodAll enc Tryd.prog W 0 (fun _ => true) true Tryd.f9.params.toList args.toList ds p := hA0
  rw [Tryd.params9] at hA hval
  obtain ⟨v0, vs0, d0, ds0, p0, q0, hargs, rfl, rfl, h0, r0⟩ := trodAll_cons hA
  obtain ⟨rfl, rfl, rfl⟩ := trodAll_nil r0
  obtain rfl : args = #[v0] := by cases args; simp_all
  obtain ⟨rfl, rfl⟩ := trodVars_none hV
  obtain ⟨a0, c0, S0, rfl, hc0, hx0, hb0⟩ := open_strs (hval 0 31 v0 rfl rfl) h0
  refine (linklineNumbers_walk a0 c0 S0 (by omega) W hb0).mono fun e W' ⟨he, hB⟩ => ?_
  subst he
  refine ⟨_, rfl, post_law (by kernel_rfl) ?_ rfl hW' rfl rfl Tryd.underlying4 hB⟩
  rw [Tryd.params9]
  intro t ht
  have hall : ([31].all fun u => Tryd.prog.readableRec u && decide (u < Tryd.prog.types.size)) = true := by kernel_rfl
  have h1 := List.all_eq_true.1 hall t ht
  have h2 : Tryd.prog.readableRec t = true ∧ t < Tryd.prog.types.size := by simpa using h1
  exact h2

theorem said : Rows.LinklineNumbersSaid :=
  OpenClaim.holds_of_wide 9 Tryd.f9 rfl rfl rfl rfl rfl rfl rfl ⟨rfl, rfl, rfl, rfl, rfl⟩ rfl rfl rfl rfl rfl (by kernel_rfl) Tryd.func9 (by kernel_rfl)
    (of_decide_eq_true (by kernel_rfl)) (by unfold Func.isWrapper; first | (rw [if_pos (by decide +kernel)]; kernel_rfl) | (rw [if_neg (by decide +kernel)]; exact ⟨rfl, rfl⟩))
    (fun os started H enc _ => lifted os started H enc)
theorem plain (f : FuncId) (fn : Func) (hf : Tryd.pinned.checked.prog.funcNamed "analemma/analemmalaw12.LinklineNumbers" = some f) (hfn : Tryd.pinned.checked.prog.funcs[f]? = some fn) :
    false = Tryd.pinned.checked.prog.looks [] ∧ ∀ (j : Nat) t, fn.params[j]? = some t → Tryd.pinned.checked.prog.wantsStandIn t = false := by
  obtain rfl : f = 9 := Option.some.inj ((show Tryd.prog.funcNamed "analemma/analemmalaw12.LinklineNumbers" = some 9 by kernel_rfl).symm.trans hf) |>.symm
  obtain rfl : fn = Tryd.f9 := (Option.some.inj (Tryd.func9.symm.trans hfn)).symm
  refine ⟨by kernel_rfl, fun j t ht => ?_⟩
  rw [Tryd.params9] at ht
  have hm : t ∈ [31] := by simpa using Array.mem_of_getElem? ht
  have hall : ([31].all fun u => !Tryd.prog.wantsStandIn u) = true := by kernel_rfl
  exact (show Tryd.prog.wantsStandIn t = false by simpa using List.all_eq_true.1 hall t hm)
theorem card : Rows.LinklineNumbersCardSaid :=
  Claim7.holds_tied_plain_at .later [] _ _ _ _ said (fun _ h => by cases h) (by kernel_rfl) (fun _ h => by cases h) linklineNumbers_row_tie rfl ⟨rfl, rfl⟩ (by kernel_rfl) rfl plain (by kernel_rfl)
end linklineNumbers
#print axioms linklineNumbers.card
end Go.Proofs.YticmkjcaekhgpaaDoor
