/- The law LinklineReads returns true for every slice of strings, and its tied card holds; no condition beyond the row itself. -/
import Derived.Test.YticmkjcaekhgpaaDoorLinkE
namespace Go.Proofs.YticmkjcaekhgpaaDoor
open Go.ChangeShapes Go.WideShapes Go.ChangeAt Go.RowKit
open Go.ChangeMaps (open_string)

set_option maxHeartbeats 4000000 in
theorem linklineReads_walk (a : Option Addr) (c : Nat) (S : List ByteArray) (hl : S.length ≤ maxLen) (W : World) (hS : StrsAt W a S) :
    Calls Tryd.prog 6 #[.slice a S.length c] W fun e w' => e = .returned (.bool true) ∧ Below W.heap.size W w' := by
  have hfew := few23 S a c W hS hl
  cases hf : (S.all (fun s => decide (s.size ≤ 200)) && decide (S.length ≤ 10))
  · rw [hf] at hfew
    have HF := Lib.hid hfew
    clear hfew hf hS
    go_enter Tryd.func6, Tryd.ntmps6
    go_wp2_with fail
    refine HF.out.mono ?_
    rintro e w' ⟨rfl, rfl⟩
    go_wp2_with fail
    refine (works24 _).mono ?_
    rintro e w1 ⟨rfl, h1⟩
    go_wp2
    go_ret
    exact ⟨rfl, h1⟩
  · rw [hf] at hfew
    have HF := Lib.hid hfew
    have HS := Lib.hid hS
    have HL := Lib.hid hl
    have c25 := fun V h => link25 S a c V h hl
    have c26 := fun V h => refLink26 S a c V h hl
    have c27 := fun V h => shift27 S a c V h hl
    have c28 := fun V h => refShift28 S a c V h hl
    generalize lkT S = x at c25 c26
    generalize lkN S = y at c25 c26
    generalize namesE zoneOk S 2 = er at c25 c26
    generalize shV S = z at c27 c28
    generalize namesE setOk S 1 = er2 at c27 c28
    have C25 := Lib.hid c25
    have C26 := Lib.hid c26
    have C27 := Lib.hid c27
    have C28 := Lib.hid c28
    clear hfew hf hS hl c25 c26 c27 c28
    go_enter Tryd.func6, Tryd.ntmps6
    go_wp2_with fail
    refine HF.out.mono ?_
    rintro e w' ⟨rfl, rfl⟩
    go_wp2_with fail
    refine (C25.out _ HS.out).mono ?_
    rintro e V1 ⟨rfl, h1⟩
    go_wp2_with fail
    have b1 : Below W.heap.size W (V1.alloc (.cells #[.string x, .string y] 34)) := h1.alloc h1.size _
    refine (C26.out _ (HS.out.keep b1)).mono ?_
    rintro e V2 ⟨rfl, h2⟩
    have p0 : V2.cell? ⟨V1.heap.size, 0, none⟩ = some (.string x) := (h2.cell (p := ⟨V1.heap.size, 0, none⟩) (by simp)).trans ((World.cell?_alloc_at _ _ _ _ rfl).trans rfl)
    have p1 : V2.cell? ⟨V1.heap.size, 1, none⟩ = some (.string y) := (h2.cell (p := ⟨V1.heap.size, 1, none⟩) (by simp)).trans ((World.cell?_alloc_at _ _ _ _ rfl).trans rfl)
    have z1 : V1.heap.size < V2.heap.size := by have := h2.size; simp at this; omega
    have b2 : Below W.heap.size W V2 := b1.trans (h2.mono (by simp; have := h1.size; omega))
    have H2 := Lib.hid h2
    clear h2
    go_wp2_with fail
    have b3 : Below W.heap.size W (V2.alloc (.cells #[.string x, .string y] 34)) := b2.alloc b2.size _
    refine (C27.out _ (HS.out.keep b3)).mono ?_
    rintro e V3 ⟨rfl, h3⟩
    have q0 : V3.cell? ⟨V1.heap.size, 0, none⟩ = some (.string x) := (h3.cell (p := ⟨V1.heap.size, 0, none⟩) (by simp; omega)).trans ((World.cell?_alloc_past _ _ _ z1).trans p0)
    have q1 : V3.cell? ⟨V1.heap.size, 1, none⟩ = some (.string y) := (h3.cell (p := ⟨V1.heap.size, 1, none⟩) (by simp; omega)).trans ((World.cell?_alloc_past _ _ _ z1).trans p1)
    have r0 : V3.cell? ⟨V2.heap.size, 0, none⟩ = some (.string x) := (h3.cell (p := ⟨V2.heap.size, 0, none⟩) (by simp)).trans ((World.cell?_alloc_at _ _ _ _ rfl).trans rfl)
    have r1 : V3.cell? ⟨V2.heap.size, 1, none⟩ = some (.string y) := (h3.cell (p := ⟨V2.heap.size, 1, none⟩) (by simp)).trans ((World.cell?_alloc_at _ _ _ _ rfl).trans rfl)
    have b4 : Below W.heap.size W V3 := b3.trans (h3.mono (by simp; have := b2.size; omega))
    clear h3 p0 p1
    go_wp2_with fail
    refine (C28.out _ (HS.out.keep b4)).mono ?_
    rintro e w' ⟨rfl, rfl⟩
    go_wp2_with fail
    refine (works24 _).mono ?_
    rintro e V4 ⟨rfl, h4⟩
    go_wp2
    go_ret
    exact ⟨rfl, b4.trans (h4.mono b4.size)⟩
namespace linklineReads
theorem own : ownKnob Tryd.prog.godebug = none := by kernel_rfl
set_option maxRecDepth 100000 in
theorem lifted (os : Os) (started : os.Started) (H : Type) (enc : TypeId × Value → H) :
    ReturnsInHanded {} Tryd.checked os 6 .any (fun w args => (Rows.linklineReadsSpec.pre enc Tryd.prog Tryd.f6 Rows.linklineReadsRow.domain false w args ∧ laidMetH Tryd.prog Rows.linklineReadsRow.laid w) ∧ sizedMet enc Tryd.prog Tryd.f6 (OpenSpec.ofChange Rows.linklineReadsSpec) false w args)
      (Rows.linklineReadsSpec.post enc Tryd.prog Tryd.f6 false true false false) := by
  refine returnsInHanded_of_change_and (C := Tryd.checked) (X := fun w _ => laidMetH Tryd.prog Rows.linklineReadsRow.laid w) (fun _ _ _ hh h => h.of_heap hh) own started (by kernel_rfl) Tryd.func6
    (ChangeSpec.witness_shaped (enc := enc) (C := Tryd.checked) (os := os) (X := fun w _ => laidMetH Tryd.prog Rows.linklineReadsRow.laid w) false (World.laidAll Tryd.prog os Rows.linklineReadsRow.laid) #[.slice none 0 0] 8 (World.laidAll_os _ _ _)
      (World.shaped_of_ZipB (by kernel_rfl) (by kernel_rfl)) (by kernel_rfl) (by kernel_rfl) (by kernel_rfl)
      (by rw [MakeChecks.laidMetH_plain _ _ _ (by kernel_rfl)]; exact laidMet_laidAll _ (by kernel_rfl) (by kernel_rfl))) ?_
  intro W base args ds gs before hval0 hW _ _ _ _
  have hval : ∀ (j : Nat) t v, Tryd.f6.params[j]? = some t → args[j]? = some v → Value.okWide Tryd.prog W .any base t v := hval0
  have hW' := hW
  obtain ⟨p, q, hA0, hV, rfl, _, _⟩ := hW
  have hA : DataW.TrodAll enc Tryd.prog W 0 (fun _ => true) true Tryd.f6.params.toList args.toList ds p := hA0
  rw [Tryd.params6] at hA hval
  obtain ⟨v0, vs0, d0, ds0, p0, q0, hargs, rfl, rfl, h0, r0⟩ := trodAll_cons hA
  obtain ⟨rfl, rfl, rfl⟩ := trodAll_nil r0
  obtain rfl : args = #[v0] := by cases args; simp_all
  obtain ⟨rfl, rfl⟩ := trodVars_none hV
  obtain ⟨a0, c0, S0, rfl, hc0, hx0, hb0⟩ := open_strs (hval 0 31 v0 rfl rfl) h0
  refine (linklineReads_walk a0 c0 S0 (by omega) W hb0).mono fun e W' ⟨he, hB⟩ => ?_
  subst he
  refine ⟨_, rfl, post_law (by kernel_rfl) ?_ rfl hW' rfl rfl Tryd.underlying4 hB⟩
  rw [Tryd.params6]
  intro t ht
  have hall : ([31].all fun u => Tryd.prog.readableRec u && decide (u < Tryd.prog.types.size)) = true := by kernel_rfl
  have h1 := List.all_eq_true.1 hall t ht
  have h2 : Tryd.prog.readableRec t = true ∧ t < Tryd.prog.types.size := by simpa using h1
  exact h2

theorem said : Rows.LinklineReadsSaid :=
  OpenClaim.holds_of_wide 6 Tryd.f6 rfl rfl rfl rfl rfl rfl rfl ⟨rfl, rfl, rfl, rfl, rfl⟩ rfl rfl rfl rfl rfl (by kernel_rfl) Tryd.func6 (by kernel_rfl)
    (of_decide_eq_true (by kernel_rfl)) (by unfold Func.isWrapper; first | (rw [if_pos (by decide +kernel)]; kernel_rfl) | (rw [if_neg (by decide +kernel)]; exact ⟨rfl, rfl⟩))
    (fun os started H enc _ => lifted os started H enc)
theorem plain (f : FuncId) (fn : Func) (hf : Tryd.pinned.checked.prog.funcNamed "analemma/analemmalaw12.LinklineReads" = some f) (hfn : Tryd.pinned.checked.prog.funcs[f]? = some fn) :
    false = Tryd.pinned.checked.prog.looks [] ∧ ∀ (j : Nat) t, fn.params[j]? = some t → Tryd.pinned.checked.prog.wantsStandIn t = false := by
  obtain rfl : f = 6 := Option.some.inj ((show Tryd.prog.funcNamed "analemma/analemmalaw12.LinklineReads" = some 6 by kernel_rfl).symm.trans hf) |>.symm
  obtain rfl : fn = Tryd.f6 := (Option.some.inj (Tryd.func6.symm.trans hfn)).symm
  refine ⟨by kernel_rfl, fun j t ht => ?_⟩
  rw [Tryd.params6] at ht
  have hm : t ∈ [31] := by simpa using Array.mem_of_getElem? ht
  have hall : ([31].all fun u => !Tryd.prog.wantsStandIn u) = true := by kernel_rfl
  exact (show Tryd.prog.wantsStandIn t = false by simpa using List.all_eq_true.1 hall t hm)
theorem card : Rows.LinklineReadsCardSaid :=
  Claim7.holds_tied_plain_at .later [] _ _ _ _ said (fun _ h => by cases h) (by kernel_rfl) (fun _ h => by cases h) linklineReads_row_tie rfl ⟨rfl, rfl⟩ (by kernel_rfl) rfl plain (by kernel_rfl)
end linklineReads
#print axioms linklineReads.card
end Go.Proofs.YticmkjcaekhgpaaDoor
