/- The law FlattenOrder returns true for all drafts and numbers, and its tied card holds; no condition beyond the row itself. -/
import Derived.Test.YtnffecoohkanhaaDoorYDrV
import Derived.Test.YtnffecoohkanhaaDoorM25
import Derived.Test.YtnffecoohkanhaaDoorM10
namespace Go.Proofs.YtnffecoohkanhaaDoor.Px
open Go.RowKit
theorem flattenOrder_walk (sv zv lv : Value) (vs zs : List Value) (Ln : List Nat) (z l t : Nat) (To : List Nat) (tv : Value) (n2 : Int) (hn2 : (Lit.int IntKind.u8 n2).wf = true) (n3 : Int) (hn3 : (Lit.int IntKind.u8 n3).wf = true) {W : World} (h : D23 W sv zv lv vs zs Ln) (hz : z < 256) (hl : l < 256) (ht : t < 256) (hT : SlV W tv 1 To.length (To.map u8v)) (hTo : ∀ b ∈ To, b < 256) (hE : EnvAt W) :
    Calls Tryd.prog 7 #[.agg #[sv, zv, lv], .agg #[.int .u8 (z : Int), .int .u8 (l : Int), tv, .int .u8 (t : Int)], .int .u8 n2, .int .u8 n3] W fun e w' => e = .returned (.bool true) ∧ Below W.heap.size W w' := by
  have w2 := wf_u8 hn2
  obtain ⟨m2, rfl⟩ : ∃ m : Nat, n2 = (m : Int) := ⟨n2.toNat, by omega⟩
  have w3 := wf_u8 hn3
  obtain ⟨m3, rfl⟩ : ∃ m : Nat, n3 = (m : Int) := ⟨n3.toNat, by omega⟩
  exact order35_any sv zv lv vs zs Ln z l t To tv m2 m3 W h hz hl ht hT hTo (by omega) (by omega) hE
end Go.Proofs.YtnffecoohkanhaaDoor.Px
namespace Go.Proofs.YtnffecoohkanhaaDoor
open Go.ChangeShapes Go.WideShapes Go.ChangeAt Go.RowKit
open Go.ChangeMaps (open_string)

namespace flattenOrder
theorem own : ownKnob Tryd.prog.godebug = none := by kernel_rfl
set_option maxRecDepth 100000 in
theorem lifted (os : Os) (started : os.Started) (H : Type) (enc : TypeId × Value → H) :
    ReturnsInHanded {} Tryd.checked os 7 .any (fun w args => (Rows.flattenOrderSpec.pre enc Tryd.prog Tryd.f7 Rows.flattenOrderRow.domain false w args ∧ laidMetH Tryd.prog Rows.flattenOrderRow.laid w) ∧ sizedMet enc Tryd.prog Tryd.f7 (OpenSpec.ofChange Rows.flattenOrderSpec) false w args)
      (Rows.flattenOrderSpec.post enc Tryd.prog Tryd.f7 false true false false) := by
  refine returnsInHanded_of_change_and (C := Tryd.checked) (X := fun w _ => laidMetH Tryd.prog Rows.flattenOrderRow.laid w) (fun _ _ _ hh h => h.of_heap hh) own started (by kernel_rfl) Tryd.func7
    (ChangeSpec.witness_shaped (enc := enc) (C := Tryd.checked) (os := os) (X := fun w _ => laidMetH Tryd.prog Rows.flattenOrderRow.laid w) false ((World.doorLaid Tryd.prog 4000 os).layVars Tryd.prog [("unicode/utf8.first", Rows.laid_unicode_utf8_first)]) #[.agg #[.slice none 0 0, .slice none 0 0, .slice none 0 0], .agg #[.int .u8 0, .int .u8 0, .slice none 0 0, .int .u8 0], .int .u8 0, .int .u8 0] 8 (door_os os)
      (World.shaped_of_ZipB (by kernel_rfl) (by kernel_rfl)) (by kernel_rfl) (by kernel_rfl) (by kernel_rfl) (door_met5 os _)) ?_
  intro W base args ds gs before hval0 hW _ _ hL _
  have hval : ∀ (j : Nat) t v, Tryd.f7.params[j]? = some t → args[j]? = some v → Value.okWide Tryd.prog W .any base t v := hval0
  have hW' := hW
  obtain ⟨p, q, hA0, hV, rfl, _, _⟩ := hW
  have hA : DataW.TrodAll enc Tryd.prog W 0 (fun _ => true) true Tryd.f7.params.toList args.toList ds p := hA0
  rw [Tryd.params7] at hA hval
  obtain ⟨v0, vs0, d0, ds0, p0, q0, hargs, rfl, rfl, h0, r0⟩ := trodAll_cons hA
  obtain ⟨v1, vs1, d1, ds1, p1, q1, rfl, rfl, rfl, h1, r1⟩ := trodAll_cons r0
  obtain ⟨v2, vs2, d2, ds2, p2, q2, rfl, rfl, rfl, h2, r2⟩ := trodAll_cons r1
  obtain ⟨v3, vs3, d3, ds3, p3, q3, rfl, rfl, rfl, h3, r3⟩ := trodAll_cons r2
  obtain ⟨rfl, rfl, rfl⟩ := trodAll_nil r3
  obtain rfl : args = #[v0, v1, v2, v3] := by cases args; simp_all
  obtain ⟨rfl, rfl⟩ := trodVars_none hV
  obtain ⟨sv, zv, lv, vs, zs, Ln, rfl, h23⟩ := Px.open_d23 (hval 0 54 v0 rfl rfl) h0
  obtain ⟨z, l, t, tv, To, rfl, hT, hz, hl, ht, hTo⟩ := Px.open_draft (hval 1 56 v1 rfl rfl) h1
  obtain ⟨n2, rfl, rfl, rfl, hn2⟩ := open_int Tryd.underlying5 (hval 2 5 v2 rfl rfl) h2
  obtain ⟨n3, rfl, rfl, rfl, hn3⟩ := open_int Tryd.underlying5 (hval 3 5 v3 rfl rfl) h3
  refine (Px.flattenOrder_walk sv zv lv vs zs Ln z l t To tv n2 hn2 n3 hn3 h23 hz hl ht hT hTo ⟨Px.pow_of hL⟩).mono fun e W' ⟨he, hB⟩ => ?_
  subst he
  refine ⟨_, rfl, post_law (by kernel_rfl) ?_ rfl hW' rfl rfl Tryd.underlying4 hB⟩
  rw [Tryd.params7]
  intro t ht
  have hall : ([54, 56, 5, 5].all fun u => Tryd.prog.readableRec u && decide (u < Tryd.prog.types.size)) = true := by kernel_rfl
  have h1 := List.all_eq_true.1 hall t ht
  have h2 : Tryd.prog.readableRec t = true ∧ t < Tryd.prog.types.size := by simpa using h1
  exact h2
set_option maxHeartbeats 8000000 in
theorem facts : joinedFacts Tryd.pinned.checked.prog 7 Tryd.f7 Rows.flattenOrderSpec Rows.flattenOrderRow = true := by
  simp only [joinedFacts, Bool.and_eq_true]
  and_intros
  all_goals (as_aux_lemma => kernel_rfl)
theorem named : Tryd.pinned.checked.prog.funcNamed Rows.flattenOrderRow.func = some 7 := by kernel_rfl
theorem said : Rows.FlattenOrderSaid :=
  OpenClaim.holds_of_wide 7 Tryd.f7 rfl rfl rfl rfl rfl rfl rfl ⟨rfl, rfl, rfl, rfl, rfl⟩ rfl rfl rfl rfl rfl named Tryd.func7 facts
    (of_decide_eq_true (by kernel_rfl)) (by unfold Func.isWrapper; first | (rw [if_pos (by decide +kernel)]; kernel_rfl) | (rw [if_neg (by decide +kernel)]; exact ⟨rfl, rfl⟩))
    (fun os started H enc _ => lifted os started H enc)
theorem plain (f : FuncId) (fn : Func) (hf : Tryd.pinned.checked.prog.funcNamed "analemma/analemmalaw35.FlattenOrder" = some f) (hfn : Tryd.pinned.checked.prog.funcs[f]? = some fn) :
    true = Tryd.pinned.checked.prog.looks [] ∧ ∀ (j : Nat) t, fn.params[j]? = some t → Tryd.pinned.checked.prog.wantsStandIn t = false := by
  obtain rfl : f = 7 := Option.some.inj ((show Tryd.prog.funcNamed "analemma/analemmalaw35.FlattenOrder" = some 7 by kernel_rfl).symm.trans hf) |>.symm
  obtain rfl : fn = Tryd.f7 := (Option.some.inj (Tryd.func7.symm.trans hfn)).symm
  refine ⟨by kernel_rfl, fun j t ht => ?_⟩
  rw [Tryd.params7] at ht
  have hm : t ∈ [54, 56, 5, 5] := by simpa using Array.mem_of_getElem? ht
  have hall : ([54, 56, 5, 5].all fun u => !Tryd.prog.wantsStandIn u) = true := by kernel_rfl
  exact (show Tryd.prog.wantsStandIn t = false by simpa using List.all_eq_true.1 hall t hm)
theorem card : Rows.FlattenOrderCardSaid :=
  Claim7.holds_tied_plain_at .later [] _ _ _ _ said (fun _ h => by cases h) (by kernel_rfl) (fun _ h => by cases h) flattenOrder_row_tie rfl ⟨rfl, rfl⟩ (by kernel_rfl) rfl plain (by kernel_rfl)
end flattenOrder
#print axioms flattenOrder.card
end Go.Proofs.YtnffecoohkanhaaDoor
