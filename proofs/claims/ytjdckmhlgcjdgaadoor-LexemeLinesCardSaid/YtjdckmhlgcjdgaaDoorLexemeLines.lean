/- The law LexemeLines returns true for every string, and its tied card holds; no condition beyond the row itself. -/
import Derived.Test.YtjdckmhlgcjdgaaDoorLxW
import Derived.Test.YtjdckmhlgcjdgaaDoorLaw
namespace Go.Proofs.YtjdckmhlgcjdgaaDoor
open Go.ChangeShapes Go.WideShapes Go.ChangeAt Go.RowKit
open Go.ChangeMaps (open_string)
open Lx
open Lex (strV bytesOf fieldsL fieldsE)

theorem max_at {W : World} (h : W.ShapedOpen Tryd.prog) : MaxAt W := by
  obtain ⟨m, hm⟩ := maxLen_cell h
  exact ⟨block_lt_of_cell hm, m, hm⟩
set_option maxHeartbeats 1000000 in
theorem lexemeLines_walk (s : ByteArray) (hs : s.size ≤ maxLen) (W : World) (hm : MaxAt W) :
    Calls Tryd.prog 3 #[.string s] W fun e w' => e = .returned (.bool true) ∧ Below W.heap.size W w' := by
  have HM := Lib.hid hm
  have C12 := Lib.hid (lines_any s hs W hm.2)
  have C13 := Lib.hid (fun V : World => refLines_any s hs V)
  unfold LinesPost at C12 C13
  obtain ⟨L, hL⟩ : ∃ L, linesL s.data.toList = L := ⟨_, rfl⟩
  obtain ⟨n, hn⟩ : ∃ n, linesN s.data.toList = n := ⟨_, rfl⟩
  obtain ⟨er, her⟩ : ∃ er, linesE s.data.toList = er := ⟨_, rfl⟩
  rw [hL, hn, her] at C12 C13
  unfold maxLen at hs
  clear hm hL hn her
  by_cases h3 : 3000 < s.size
  · have h3i : (3000 : Int) < (s.size : Int) := by omega
    go_enter Tryd.func3, Tryd.ntmps3
    go_wp2_with fail
    refine (works_any _ HM.out).mono ?_
    rintro e V ⟨rfl, hB⟩
    go_wp2
    go_ret
    exact ⟨rfl, hB⟩
  · have h3i : (s.size : Int) ≤ 3000 := by omega
    go_enter Tryd.func3, Tryd.ntmps3
    go_wp2_with fail
    refine C12.out.mono ?_
    rintro e V1 ⟨v1, rfl, a1, k1⟩
    have A1 := Lib.hid a1
    have B1 := Lib.hid k1
    clear a1 k1
    go_wp2_with fail
    refine (C13.out _).mono ?_
    rintro e V2 ⟨v2, rfl, a2, k2⟩
    have A1b := Lib.hid (A1.out.keep k2)
    have A2 := Lib.hid a2
    have B2 := Lib.hid (B1.out.trans (k2.mono B1.out.size))
    clear a2 k2
    go_wp2_with fail
    refine (equal_is true A1b.out A2.out (by simp)).mono ?_
    rintro e V3 ⟨rfl, q, rfl⟩
    have B3 := Lib.hid (below_drewN B2.out q)
    go_wp2_with fail
    refine (works_any _ (HM.out.keep B3.out)).mono ?_
    rintro e V4 ⟨rfl, k4⟩
    go_wp2
    go_ret
    exact ⟨rfl, B3.out.trans (k4.mono B3.out.size)⟩

namespace lexemeLines
theorem own : ownKnob Tryd.prog.godebug = none := by kernel_rfl
set_option maxRecDepth 100000 in
theorem lifted (os : Os) (started : os.Started) (H : Type) (enc : TypeId × Value → H) :
    ReturnsInHanded {} Tryd.checked os 3 .any (fun w args => (Rows.lexemeLinesSpec.pre enc Tryd.prog Tryd.f3 Rows.lexemeLinesRow.domain false w args ∧ laidMetH Tryd.prog Rows.lexemeLinesRow.laid w) ∧ sizedMet enc Tryd.prog Tryd.f3 (OpenSpec.ofChange Rows.lexemeLinesSpec) false w args)
      (Rows.lexemeLinesSpec.post enc Tryd.prog Tryd.f3 false true false false) := by
  refine handed_shaped (X := fun w _ => laidMetH Tryd.prog Rows.lexemeLinesRow.laid w) own started (by kernel_rfl) Tryd.func3
    (ChangeSpec.witness_shaped (enc := enc) (C := Tryd.checked) (os := os) (X := fun w _ => laidMetH Tryd.prog Rows.lexemeLinesRow.laid w) false (World.laidAll Tryd.prog os Rows.lexemeLinesRow.laid) #[.string ByteArray.empty] 8 (World.laidAll_os _ _ _)
      (World.shaped_of_ZipB (by kernel_rfl) (by kernel_rfl)) (by kernel_rfl) (by kernel_rfl) (by kernel_rfl)
      (by rw [MakeChecks.laidMetH_plain _ _ _ (by kernel_rfl)]; exact laidMet_laidAll _ (by kernel_rfl) (by kernel_rfl))) ?_
  intro W base args ds gs before hval0 hW hsh
  have hval : ∀ (j : Nat) t v, Tryd.f3.params[j]? = some t → args[j]? = some v → Value.okWide Tryd.prog W .any base t v := hval0
  have hW' := hW
  obtain ⟨p, q, hA0, hV, rfl, _, _⟩ := hW
  have hA : DataW.TrodAll enc Tryd.prog W 0 (fun _ => true) true Tryd.f3.params.toList args.toList ds p := hA0
  rw [Tryd.params3] at hA hval
  obtain ⟨v0, vs0, d0, ds0, p0, q0, hargs, rfl, rfl, h0, r0⟩ := trodAll_cons hA
  obtain ⟨rfl, rfl, rfl⟩ := trodAll_nil r0
  obtain rfl : args = #[v0] := by cases args; simp_all
  obtain ⟨rfl, rfl⟩ := trodVars_none hV
  obtain ⟨s0, rfl, rfl, rfl, hs0⟩ := open_string Tryd.underlying9 (hval 0 9 v0 rfl rfl) h0
  refine (lexemeLines_walk s0 hs0 W (max_at hsh)).mono fun e W' ⟨he, hB⟩ => ?_
  subst he
  refine ⟨_, rfl, post_law (by kernel_rfl) ?_ rfl hW' rfl rfl Tryd.underlying4 hB⟩
  rw [Tryd.params3]
  intro t ht
  have hall : ([9].all fun u => Tryd.prog.readableRec u && decide (u < Tryd.prog.types.size)) = true := by kernel_rfl
  have h1 := List.all_eq_true.1 hall t ht
  have h2 : Tryd.prog.readableRec t = true ∧ t < Tryd.prog.types.size := by simpa using h1
  exact h2

theorem said : Rows.LexemeLinesSaid :=
  OpenClaim.holds_of_wide 3 Tryd.f3 rfl rfl rfl rfl rfl rfl rfl ⟨rfl, rfl, rfl, rfl, rfl⟩ rfl rfl rfl rfl rfl (by kernel_rfl) Tryd.func3 (by kernel_rfl)
    (of_decide_eq_true (by kernel_rfl)) (by unfold Func.isWrapper; first | (rw [if_pos (by decide +kernel)]; kernel_rfl) | (rw [if_neg (by decide +kernel)]; exact ⟨rfl, rfl⟩))
    (fun os started H enc _ => lifted os started H enc)
theorem plain (f : FuncId) (fn : Func) (hf : Tryd.pinned.checked.prog.funcNamed "analemma/analemmalaw05.LexemeLines" = some f) (hfn : Tryd.pinned.checked.prog.funcs[f]? = some fn) :
    false = Tryd.pinned.checked.prog.looks [] ∧ ∀ (j : Nat) t, fn.params[j]? = some t → Tryd.pinned.checked.prog.wantsStandIn t = false := by
  obtain rfl : f = 3 := Option.some.inj ((show Tryd.prog.funcNamed "analemma/analemmalaw05.LexemeLines" = some 3 by kernel_rfl).symm.trans hf) |>.symm
  obtain rfl : fn = Tryd.f3 := (Option.some.inj (Tryd.func3.symm.trans hfn)).symm
  refine ⟨by kernel_rfl, fun j t ht => ?_⟩
  rw [Tryd.params3] at ht
  have hm : t ∈ [9] := by simpa using Array.mem_of_getElem? ht
  have hall : ([9].all fun u => !Tryd.prog.wantsStandIn u) = true := by kernel_rfl
  exact (show Tryd.prog.wantsStandIn t = false by simpa using List.all_eq_true.1 hall t hm)
theorem card : Rows.LexemeLinesCardSaid :=
  Claim7.holds_tied_plain_at .later [] _ _ _ _ said (fun _ h => by cases h) (by kernel_rfl) (fun _ h => by cases h) lexemeLines_row_tie rfl ⟨rfl, rfl⟩ (by kernel_rfl) rfl plain (by kernel_rfl)
end lexemeLines
#print axioms lexemeLines.card
end Go.Proofs.YtjdckmhlgcjdgaaDoor
