/- The law LexemeFields returns true for every string and every slice of strings, and its tied card holds; no condition beyond the row itself. -/
import Derived.Test.YtjdckmhlgcjdgaaDoorOpen
namespace Go.Proofs.YtjdckmhlgcjdgaaDoor
open Go.ChangeShapes Go.WideShapes Go.ChangeAt Go.RowKit
open Go.ChangeMaps (open_string)
open Lx
open Lex (strV bytesOf fieldsL fieldsE)

theorem max_at {W : World} (h : W.ShapedOpen Tryd.prog) : MaxAt W := by
  obtain ⟨m, hm⟩ := maxLen_cell h
  exact ⟨block_lt_of_cell hm, m, hm⟩
def over400 (p : List UInt8) : Bool := decide (400 < p.length)
theorem over18 (p : List UInt8) (hp : p.length ≤ maxLen) (w : World) :
    Calls Tryd.prog 18 #[.string (bytesOf p)] w fun e w' => e = .returned (.bool (over400 p)) ∧ w = w' := by
  unfold maxLen at hp
  have hsz : (bytesOf p).size = p.length := rfl
  have HS := Lib.hid hsz
  have hb : (bytesOf p).size ≤ 9223372036854775807 := by omega
  generalize bytesOf p = s at *
  clear hsz
  go_enter Tryd.func18, Tryd.ntmps18
  go_wp2
  go_ret
  refine ⟨Lex.ret_bool ?_, rfl⟩
  unfold over400
  rw [← HS.out, decide_eq_decide]
  omega
theorem sumL_few (F : List (List UInt8)) (h : ∀ p ∈ F, p.length ≤ 400) : sumL F ≤ F.length * 403 := by
  induction F with
  | nil => simp [sumL]
  | cons f r ih =>
    have h1 := h f (by simp)
    have h2 := ih (fun p hp => h p (by simp [hp]))
    simp [sumL] at h2 ⊢
    omega
set_option maxHeartbeats 2000000 in
theorem lexemeFields_walk (s : ByteArray) (hs : s.size ≤ maxLen) (v : Value) (F : List (List UInt8)) (W : World) (hv : StrsV W v F) (hl : ∀ p ∈ F, p.length ≤ maxLen) (hm : MaxAt W) :
    Calls Tryd.prog 5 #[.string s, v] W fun e w' => e = .returned (.bool true) ∧ Below W.heap.size W w' := by
  have HM := Lib.hid hm
  obtain ⟨b, hb⟩ : ∃ b, F.any over400 = b := ⟨_, rfl⟩
  have CC := Lib.hid (contains_any 18 over400 maxLen F v W hv hl (enters_of Tryd.func18 (by kernel_rfl) rfl) (fun p V hp => over18 p hp V) b hb)
  obtain ⟨a, c, rfl, hc1, hc2, hc3⟩ := hv
  have HV := Lib.hid (show StrsV W (.slice a F.length c) F from ⟨a, c, rfl, hc1, hc2, hc3⟩)
  unfold maxLen at hc2
  have C16 := Lib.hid (fields_any s hs W)
  have C19 := Lib.hid (fun V : World => refFields_any s hs V)
  unfold FieldsRet at C16 C19
  obtain ⟨L, hL⟩ : ∃ L, fieldsL s.data.toList = L := ⟨_, rfl⟩
  obtain ⟨er, her⟩ : ∃ er, fieldsE s.data.toList = er := ⟨_, rfl⟩
  rw [hL, her] at C16 C19
  have HB := Lib.hid hb
  unfold maxLen at hs
  clear hm hL her hc3 hl hb
  by_cases h1 : 1000 < s.size
  · have h1i : (1000 : Int) < (s.size : Int) := by omega
    go_enter Tryd.func5, Tryd.ntmps5
    go_wp2_with fail
    refine (works_any _ HM.out).mono ?_
    rintro e V ⟨rfl, hB⟩
    go_wp2
    go_ret
    exact ⟨rfl, hB⟩
  have h1i : (s.size : Int) ≤ 1000 := by omega
  by_cases h2 : 50 < F.length
  · have h2i : (50 : Int) < (F.length : Int) := by omega
    go_enter Tryd.func5, Tryd.ntmps5
    go_wp2_with fail
    refine (works_any _ HM.out).mono ?_
    rintro e V ⟨rfl, hB⟩
    go_wp2
    go_ret
    exact ⟨rfl, hB⟩
  have h2i : (F.length : Int) ≤ 50 := by omega
  cases b
  · have h4 : ∀ p ∈ F, p.length ≤ 400 := by
      have := HB.out
      rw [List.any_eq_false] at this
      intro p hp
      have := this p hp
      unfold over400 at this
      simp at this
      exact this
    have hsum : sumL F ≤ 100000000000000 := by have := sumL_few F h4; omega
    have C20 := Lib.hid (fun (V : World) (h : StrsV V (.slice a F.length c) F) => join_any F _ V h (fun p hp => by have := h4 p hp; omega) hsum)
    have C21 := Lib.hid (fun (V : World) (h : StrsV V (.slice a F.length c) F) => refJoin_any F _ V h (fun p hp => by have := h4 p hp; omega))
    unfold JoinPost at C20 C21
    obtain ⟨o, ho⟩ : ∃ o, bytesOf (joinS F) = o := ⟨_, rfl⟩
    obtain ⟨jr, hjr⟩ : ∃ jr, joinE F = jr := ⟨_, rfl⟩
    rw [ho, hjr] at C20 C21
    clear h4 hsum ho hjr
    go_enter Tryd.func5, Tryd.ntmps5
    go_wp2_with fail
    refine CC.out.mono ?_
    rintro e V0 ⟨rfl, rfl⟩
    go_wp2_with fail
    refine C16.out.mono ?_
    rintro e V1 ⟨v1, rfl, a1, k1⟩
    have A1 := Lib.hid a1
    have B1 := Lib.hid k1
    clear a1 k1
    go_wp2_with fail
    refine (C19.out _).mono ?_
    rintro e V2 ⟨v2, rfl, a2, k2⟩
    have A1b := Lib.hid (A1.out.keep k2)
    have A2 := Lib.hid a2
    have B2 := Lib.hid (B1.out.trans (k2.mono B1.out.size))
    clear a2 k2
    go_wp2_with fail
    refine (C20.out _ (HV.out.keep B2.out)).mono ?_
    rintro e V3 ⟨rfl, k3⟩
    have A1c := Lib.hid (A1b.out.keep k3)
    have A2c := Lib.hid (A2.out.keep k3)
    have B3 := Lib.hid (B2.out.trans (k3.mono B2.out.size))
    clear k3
    go_wp2_with fail
    refine (C21.out _ (HV.out.keep B3.out)).mono ?_
    rintro e V4 ⟨rfl, k4⟩
    have A1d := Lib.hid (A1c.out.keep k4)
    have A2d := Lib.hid (A2c.out.keep k4)
    have B4 := Lib.hid (B3.out.trans (k4.mono B3.out.size))
    clear k4
    go_wp2_with fail
    refine (equal_is true A1d.out A2d.out (by simp)).mono ?_
    rintro e V5 ⟨rfl, q, rfl⟩
    have B5 := Lib.hid (below_drewN B4.out q)
    go_wp2_with fail
    refine (works_any _ (HM.out.keep B5.out)).mono ?_
    rintro e V6 ⟨rfl, k6⟩
    go_wp2
    go_ret
    exact ⟨rfl, B5.out.trans (k6.mono B5.out.size)⟩
  · go_enter Tryd.func5, Tryd.ntmps5
    go_wp2_with fail
    refine CC.out.mono ?_
    rintro e V0 ⟨rfl, rfl⟩
    go_wp2_with fail
    refine (works_any _ HM.out).mono ?_
    rintro e V ⟨rfl, hB⟩
    go_wp2
    go_ret
    exact ⟨rfl, hB⟩

namespace lexemeFields
theorem own : ownKnob Tryd.prog.godebug = none := by kernel_rfl
set_option maxRecDepth 100000 in
theorem lifted (os : Os) (started : os.Started) (H : Type) (enc : TypeId × Value → H) :
    ReturnsInHanded {} Tryd.checked os 5 .any (fun w args => (Rows.lexemeFieldsSpec.pre enc Tryd.prog Tryd.f5 Rows.lexemeFieldsRow.domain false w args ∧ laidMetH Tryd.prog Rows.lexemeFieldsRow.laid w) ∧ sizedMet enc Tryd.prog Tryd.f5 (OpenSpec.ofChange Rows.lexemeFieldsSpec) false w args)
      (Rows.lexemeFieldsSpec.post enc Tryd.prog Tryd.f5 false true false false) := by
  refine handed_shaped (X := fun w _ => laidMetH Tryd.prog Rows.lexemeFieldsRow.laid w) own started (by kernel_rfl) Tryd.func5
    (ChangeSpec.witness_shaped (enc := enc) (C := Tryd.checked) (os := os) (X := fun w _ => laidMetH Tryd.prog Rows.lexemeFieldsRow.laid w) false (World.laidAll Tryd.prog os Rows.lexemeFieldsRow.laid) #[.string ByteArray.empty, .slice none 0 0] 8 (World.laidAll_os _ _ _)
      (World.shaped_of_ZipB (by kernel_rfl) (by kernel_rfl)) (by kernel_rfl) (by kernel_rfl) (by kernel_rfl)
      (by rw [MakeChecks.laidMetH_plain _ _ _ (by kernel_rfl)]; exact laidMet_laidAll _ (by kernel_rfl) (by kernel_rfl))) ?_
  intro W base args ds gs before hval0 hW hsh
  have hval : ∀ (j : Nat) t v, Tryd.f5.params[j]? = some t → args[j]? = some v → Value.okWide Tryd.prog W .any base t v := hval0
  have hW' := hW
  obtain ⟨p, q, hA0, hV, rfl, _, _⟩ := hW
  have hA : DataW.TrodAll enc Tryd.prog W 0 (fun _ => true) true Tryd.f5.params.toList args.toList ds p := hA0
  rw [Tryd.params5] at hA hval
  obtain ⟨v0, vs0, d0, ds0, p0, q0, hargs, rfl, rfl, h0, r0⟩ := trodAll_cons hA
  obtain ⟨v1, vs1, d1, ds1, p1, q1, rfl, rfl, rfl, h1, r1⟩ := trodAll_cons r0
  obtain ⟨rfl, rfl, rfl⟩ := trodAll_nil r1
  obtain rfl : args = #[v0, v1] := by cases args; simp_all
  obtain ⟨rfl, rfl⟩ := trodVars_none hV
  obtain ⟨s0, rfl, rfl, rfl, hs0⟩ := open_string Tryd.underlying9 (hval 0 9 v0 rfl rfl) h0
  obtain ⟨L1, hb1, hx1⟩ := open_strv (hval 1 23 v1 rfl rfl) h1
  refine (lexemeFields_walk s0 hs0 v1 L1 W hb1 hx1 (max_at hsh)).mono fun e W' ⟨he, hB⟩ => ?_
  subst he
  refine ⟨_, rfl, post_law (by kernel_rfl) ?_ rfl hW' rfl rfl Tryd.underlying4 hB⟩
  rw [Tryd.params5]
  intro t ht
  have hall : ([9, 23].all fun u => Tryd.prog.readableRec u && decide (u < Tryd.prog.types.size)) = true := by kernel_rfl
  have h1 := List.all_eq_true.1 hall t ht
  have h2 : Tryd.prog.readableRec t = true ∧ t < Tryd.prog.types.size := by simpa using h1
  exact h2

theorem said : Rows.LexemeFieldsSaid :=
  OpenClaim.holds_of_wide 5 Tryd.f5 rfl rfl rfl rfl rfl rfl rfl ⟨rfl, rfl, rfl, rfl, rfl⟩ rfl rfl rfl rfl rfl (by kernel_rfl) Tryd.func5 (by kernel_rfl)
    (of_decide_eq_true (by kernel_rfl)) (by unfold Func.isWrapper; first | (rw [if_pos (by decide +kernel)]; kernel_rfl) | (rw [if_neg (by decide +kernel)]; exact ⟨rfl, rfl⟩))
    (fun os started H enc _ => lifted os started H enc)
theorem plain (f : FuncId) (fn : Func) (hf : Tryd.pinned.checked.prog.funcNamed "analemma/analemmalaw05.LexemeFields" = some f) (hfn : Tryd.pinned.checked.prog.funcs[f]? = some fn) :
    false = Tryd.pinned.checked.prog.looks [] ∧ ∀ (j : Nat) t, fn.params[j]? = some t → Tryd.pinned.checked.prog.wantsStandIn t = false := by
  obtain rfl : f = 5 := Option.some.inj ((show Tryd.prog.funcNamed "analemma/analemmalaw05.LexemeFields" = some 5 by kernel_rfl).symm.trans hf) |>.symm
  obtain rfl : fn = Tryd.f5 := (Option.some.inj (Tryd.func5.symm.trans hfn)).symm
  refine ⟨by kernel_rfl, fun j t ht => ?_⟩
  rw [Tryd.params5] at ht
  have hm : t ∈ [9, 23] := by simpa using Array.mem_of_getElem? ht
  have hall : ([9, 23].all fun u => !Tryd.prog.wantsStandIn u) = true := by kernel_rfl
  exact (show Tryd.prog.wantsStandIn t = false by simpa using List.all_eq_true.1 hall t hm)
theorem card : Rows.LexemeFieldsCardSaid :=
  Claim7.holds_tied_plain_at .later [] _ _ _ _ said (fun _ h => by cases h) (by kernel_rfl) (fun _ h => by cases h) lexemeFields_row_tie rfl ⟨rfl, rfl⟩ (by kernel_rfl) rfl plain (by kernel_rfl)
end lexemeFields
#print axioms lexemeFields.card
end Go.Proofs.YtjdckmhlgcjdgaaDoor
