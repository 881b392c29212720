/- The law TzifLeast, its walk. The law TzifLeast returns true for every table by numbers, and its tied card holds; no condition beyond the row itself. -/
import Derived.Test.YtkpmmabdpeobaaaGreatDoorSV4
import Derived.Test.YtkpmmabdpeobaaaGreatDoorSU31
import Derived.Test.YtkpmmabdpeobaaaGreatDoorSU28
import Derived.Test.YtkpmmabdpeobaaaGreatDoorSU25
import Derived.Test.YtkpmmabdpeobaaaGreatDoorSU13
import Derived.Test.YtkpmmabdpeobaaaGreatDoorSU14
import Derived.Test.YtkpmmabdpeobaaaGreatDoorSU41
import Derived.Test.YtkpmmabdpeobaaaGreatDoorSV5
import Derived.Test.YtkpmmabdpeobaaaGreatDoorSU27
namespace Go.Proofs.YtkpmmabdpeobaaaGreatDoor.Px
open Go.RowKit
open Tz Tb Civ
set_option maxHeartbeats 8000000 in
set_option maxRecDepth 100000 in
theorem tzifLeast_cells (TY ST NX : List Int) (be fo ba : Int) (tv sv nv : Value) (W : World) (h : D40V W tv sv nv ⟨TY, ST, NX, be, fo, ba⟩) (hin : D40.In ⟨TY, ST, NX, be, fo, ba⟩) (hE : Env42 W) :
 Calls Tryz.prog 5 #[.agg #[tv, sv, nv, .int .i32 be, .int .u8 fo, .int .u8 ba]] W fun e w' => e = .returned (.bool true) ∧ Below W.heap.size W w' := by
 have CM := Lib.hid (fun w h => made40_any TY ST NX be fo ba tv sv nv w h hin)
 obtain ⟨da, dc, hdv, _, _⟩ := h.types.slice
 obtain ⟨sa, sc, hsv, _, _⟩ := h.steps.slice
 obtain ⟨na, nc, hnv, _, _⟩ := h.next.slice
 obtain ⟨DN, hDN⟩ : ∃ n, TY.length = n := ⟨_, rfl⟩
 obtain ⟨SN, hSN⟩ : ∃ n, ST.length = n := ⟨_, rfl⟩
 obtain ⟨NN, hNN⟩ : ∃ n, NX.length = n := ⟨_, rfl⟩
 dsimp only at hdv hsv hnv
 rw [hDN] at hdv
 rw [hSN] at hsv
 rw [hNN] at hnv
 subst hdv hsv hnv
 have hr := made_right _ hin
 have hN41 := made_trans_len _ hin
 have hM11 := (made_sub _ hin).2
 obtain ⟨X, hX⟩ : ∃ X, D40.made ⟨TY, ST, NX, be, fo, ba⟩ = X := ⟨_, rfl⟩
 rw [hX] at CM hr hN41 hM11
 obtain ⟨S, hS⟩ : ∃ S, bs X.foot = S := ⟨_, rfl⟩
 obtain ⟨M, hM⟩ : ∃ n, X.types.length = n := ⟨_, rfl⟩
 obtain ⟨N, hN⟩ : ∃ n, X.trans.length = n := ⟨_, rfl⟩
 rw [hM] at hM11
 rw [hN] at hN41
 have HR := Lib.hid hr
 have HS := Lib.hid hS
 have HM := Lib.hid hM
 have HN := Lib.hid hN
 have HH := Lib.hid h
 have HE := Lib.hid hE
 have K0 := Lib.hid ((Kp.start W).alloc (.cells #[.slice da DN dc, .slice sa SN sc, .slice na NN nc, .int .i32 be, .int .u8 fo, .int .u8 ba] 41))
 clear h hE hin hX hr hS hM hN hDN hSN hNN
 have CV := Lib.hid (fun tv rv w h hE => version_any X tv rv S w h hE)
 rw [versE_ok HR.out] at CV
 have CP := Lib.hid (fun w hE => parse_any X.foot w hE)
 rw [show (finG prF X.foot).2 = 0 by rw [fin_two]; exact (right_foot HR.out).1, HS.out] at CP
 unfold versT at CV
 obtain ⟨p, hp⟩ : ∃ p, (finG prF X.foot).1 = p := ⟨_, rfl⟩
 rw [hp] at CP CV
 obtain ⟨s0, o0, s1, o1, ⟨k1, d1, m1, w1, c1⟩, ⟨k2, d2, m2, w2, c2⟩⟩ := p
 have CW := Lib.hid (fun w hE => works42_any w hE)
 have HV := Lib.hid (versP_cases ⟨s0, o0, s1, o1, ⟨k1, d1, m1, w1, c1⟩, ⟨k2, d2, m2, w2, c2⟩⟩)
 obtain ⟨E, hEv⟩ : ∃ E, versP ⟨s0, o0, s1, o1, ⟨k1, d1, m1, w1, c1⟩, ⟨k2, d2, m2, w2, c2⟩⟩ = E := ⟨_, rfl⟩
 rw [hEv] at HV CV
 unfold Pos.val at CP
 dsimp only at CP CV
 clear hp hEv
 go_enter Tryz.func5, Tryz.ntmps5
 go_wp2_with fail
 refine (CM.out _ ⟨HH.out.types.keep K0.out.below, HH.out.steps.keep K0.out.below, HH.out.next.keep K0.out.below⟩).mono ?_
 rintro _ V ⟨tv, rv, rfl, hk, hf⟩
 have hk := (K0.out.adopt hk).pick (List.nil_sublist _)
 obtain ⟨xa, xc, rfl⟩ : ∃ a c, tv = .slice a X.types.length c := own_slice (hk.row 1 rfl)
 obtain ⟨ya, yc, rfl⟩ : ∃ a c, rv = .slice a X.trans.length c := own_slice (hk.row 0 rfl)
 have HF := Lib.hid hf
 have TB := Kp.tab hk hf
 rw [HM.out, HN.out] at hk TB ⊢
 rw [HS.out] at TB ⊢
 have K1 := Lib.hid hk
 have TB := Lib.hid TB
 clear hk hf CM K0
 go_upto_region 2 with fail
 have hk := K1.out.alloc (.cells #[.slice xa M xc, .slice ya N yc, .string S] 25)
 obtain ⟨X1, hX⟩ : ∃ Z, V.alloc (.cells #[.slice xa M xc, .slice ya N yc, .string S] 25) = Z := ⟨_, rfl⟩
 obtain ⟨q, hq⟩ : ∃ Z, V.heap.size = Z := ⟨_, rfl⟩
 have TB2 := TB.out.keep ((Below.refl _ V).alloc (Nat.le_refl _) (.cells #[.slice xa M xc, .slice ya N yc, .string S] 25))
 rw [hX] at TB2
 rw [hX, hq] at hk ⊢
 have K2 := Lib.hid hk
 have TB2 := Lib.hid TB2
 clear hk hX hq K1 TB
 obtain ⟨⟨x0, x1, x2⟩, _, _, _⟩ := row3 (K2.out.at 0 rfl)
 go_wp2_with fail
 refine (CV.out _ _ _ TB2.out (HE.out.keep K2.out.below).env).mono ?_
 rintro _ w3 ⟨rfl, hb⟩
 have K3 := Lib.hid (K2.out.keep hb)
 clear hb K2 CV x0 x1 x2 TB2
 obtain ⟨⟨x0, x1, x2⟩, _, _, _⟩ := row3 (K3.out.at 0 rfl)
 go_wp2_with fail
 refine (CP.out _ (HE.out.keep K3.out.below).env).mono ?_
 rintro _ w4 ⟨rfl, hb⟩
 have K4 := Lib.hid (K3.out.keep hb)
 clear hb K3 CP x0 x1 x2
 go_upto_region 7 with fail
 have hk := K4.out.alloc (.cells #[.string s0, .int .i64 o0, .string s1, .int .i64 o1, .int .i64 k1, .int .i64 d1, .int .i64 m1, .int .i64 w1, .int .i64 c1, .int .i64 k2, .int .i64 d2, .int .i64 m2, .int .i64 w2, .int .i64 c2] 50)
 obtain ⟨X5, hX⟩ : ∃ Z, w4.alloc (.cells #[.string s0, .int .i64 o0, .string s1, .int .i64 o1, .int .i64 k1, .int .i64 d1, .int .i64 m1, .int .i64 w1, .int .i64 c1, .int .i64 k2, .int .i64 d2, .int .i64 m2, .int .i64 w2, .int .i64 c2] 50) = Z := ⟨_, rfl⟩
 obtain ⟨qp, hq⟩ : ∃ Z, w4.heap.size = Z := ⟨_, rfl⟩
 rw [hX, hq] at hk ⊢
 have K5 := Lib.hid hk
 clear hk hX hq K4
 obtain ⟨y0, y1, y2, y3, y4, y5, y6, y7, y8, y9, y10, y11, y12, y13⟩ := row14 (K5.out.at 0 rfl)
 have HW := Lib.hid (HE.out.keep K5.out.below)
 by_cases h2 : s1.toList.isEmpty = true
 · have hE2 := HV.out.1 h2
   subst hE2
   clear HV
   go_wp2_with fail
   refine (CW.out _ HW.out).mono ?_
   rintro _ w6 ⟨rfl, hb⟩
   have K6 := Lib.hid (K5.out.keep hb)
   clear hb
   go_wp2_with fail
   go_ret
   exact ⟨rfl, K6.out.below⟩
 · obtain ⟨v1, v2, v3⟩ := HV.out.2 h2
   have h2' : s1.toList.isEmpty = false := by cases h : s1.toList.isEmpty <;> simp_all
   clear h2 HV
   have hcase : (E = 3 ∧ (min c1 c2 < 0 ∨ (¬ min c1 c2 < 0 ∧ 89999 < max c1 c2))) ∨ (E = 2 ∧ ¬ min c1 c2 < 0 ∧ ¬ 89999 < max c1 c2) := by
    by_cases a1 : c1 < 0 ∨ 90000 ≤ c1
    · have := v1 a1
      omega
    · by_cases a2 : c2 < 0 ∨ 90000 ≤ c2
      · have := v2 a2
        omega
      · have := v3 a1 a2
        omega
   clear v1 v2 v3
   obtain ⟨mn, hmn⟩ : ∃ m, min c1 c2 = m := ⟨_, rfl⟩
   obtain ⟨mm, hmm⟩ : ∃ m, max c1 c2 = m := ⟨_, rfl⟩
   rw [hmn, hmm] at hcase
   rcases hcase with ⟨rfl, h3 | ⟨h3, h4⟩⟩ | ⟨rfl, h3, h4⟩
   all_goals
    go_wp2_with fail
    refine (CW.out _ HW.out).mono ?_
    rintro _ w6 ⟨rfl, hb⟩
    have K6 := Lib.hid (K5.out.keep hb)
    clear hb
    go_wp2_with fail
    go_ret
    exact ⟨rfl, K6.out.below⟩
end Go.Proofs.YtkpmmabdpeobaaaGreatDoor.Px
namespace Go.Proofs.YtkpmmabdpeobaaaGreatDoor.Px
open Go.RowKit
open Civ Tb
theorem tzifLeast_walk (x : D40) (tv sv nv : Value) {W : World} (h : D40V W tv sv nv x) (hin : D40.In x) (hE : EnvAt W) (hm : ∃ m, W.cell? ⟨1, 0, none⟩ = some (.int .i64 m)) :
 Calls Tryz.prog 5 #[d40val x tv sv nv] W fun e w' => e = .returned (.bool true) ∧ Below W.heap.size W w' := by
 obtain ⟨TY, ST, NX, be, fo, ba⟩ := x
 exact tzifLeast_cells TY ST NX be fo ba tv sv nv W h hin ⟨hE, hm⟩
end Go.Proofs.YtkpmmabdpeobaaaGreatDoor.Px
namespace Go.Proofs.YtkpmmabdpeobaaaGreatDoor
open Go.ChangeShapes Go.WideShapes Go.ChangeAt Go.RowKit
open Go.ChangeMaps (open_string)
namespace tzifLeast
theorem own : ownKnob Tryz.prog.godebug = none := by kernel_rfl
set_option maxRecDepth 100000 in
theorem lifted (os : Os) (started : os.Started) (H : Type) (enc : TypeId × Value → H) :
 ReturnsInHanded {} Tryz.checked os 5 .any (fun w args => (Rows.tzifLeastSpec.pre enc Tryz.prog Tryz.f5 Rows.tzifLeastRow.domain false w args ∧ laidMetH Tryz.prog Rows.tzifLeastRow.laid w) ∧ sizedMet enc Tryz.prog Tryz.f5 (OpenSpec.ofChange Rows.tzifLeastSpec) false w args)
  (Rows.tzifLeastSpec.post enc Tryz.prog Tryz.f5 false true false false) := by
 refine handed_both (X := fun w _ => laidMetH Tryz.prog Rows.tzifLeastRow.laid w) (fun _ _ _ hh h => h.of_heap hh) own started (by kernel_rfl) Tryz.func5
  (ChangeSpec.witness_shaped (enc := enc) (C := Tryz.checked) (os := os) (X := fun w _ => laidMetH Tryz.prog Rows.tzifLeastRow.laid w) false ((World.doorLaid Tryz.prog 4000 os).layVars Tryz.prog [("unicode/utf8.first", Rows.laid_unicode_utf8_first)]) #[.agg #[.slice none 0 0, .slice none 0 0, .slice none 0 0, .int .i32 0, .int .u8 0, .int .u8 0]] 8 (door_os os)
   (World.shaped_of_ZipB (by kernel_rfl) (by kernel_rfl)) (by kernel_rfl) (by kernel_rfl) (by kernel_rfl) (door_met os _)) ?_
 intro W base args ds gs before hval0 hW hSh _ hL
 have hMx := maxLen_cell hSh
 have hval : ∀ (j : Nat) t v, Tryz.f5.params[j]? = some t → args[j]? = some v → Value.okWide Tryz.prog W .any base t v := hval0
 have hEnv : Px.EnvAt W := Px.env_of hL
 have hW' := hW
 obtain ⟨p, q, hA0, hV, rfl, _, _⟩ := hW
 have hA : DataW.TrodAll enc Tryz.prog W 0 (fun _ => true) true Tryz.f5.params.toList args.toList ds p := hA0
 rw [Tryz.params5] at hA hval
 obtain ⟨v0, vs0, d0, ds0, p0, q0, hargs, rfl, rfl, h0, r0⟩ := trodAll_cons hA
 obtain ⟨rfl, rfl, rfl⟩ := trodAll_nil r0
 obtain rfl : args = #[v0] := by cases args; simp_all
 obtain ⟨rfl, rfl⟩ := trodVars_none hV
 obtain ⟨x0, tv0, sv0, nv0, rfl, hx0, hd0⟩ := Px.open_d40 (hval 0 41 v0 rfl rfl) h0
 refine (Px.tzifLeast_walk x0 tv0 sv0 nv0 hx0 hd0 hEnv hMx).mono fun e W' ⟨he, hB⟩ => ?_
 subst he
 refine ⟨_, rfl, post_law (by kernel_rfl) ?_ rfl hW' rfl rfl Tryz.underlying4 hB⟩
 rw [Tryz.params5]
 intro t ht
 have hall : ([41].all fun u => Tryz.prog.readableRec u && decide (u < Tryz.prog.types.size)) = true := by kernel_rfl
 have h1 := List.all_eq_true.1 hall t ht
 have h2 : Tryz.prog.readableRec t = true ∧ t < Tryz.prog.types.size := by simpa using h1
 exact h2
set_option maxHeartbeats 8000000 in
theorem facts : joinedFacts Tryz.pinned.checked.prog 5 Tryz.f5 Rows.tzifLeastSpec Rows.tzifLeastRow = true := by
 simp only [joinedFacts, Bool.and_eq_true]
 and_intros
 all_goals (as_aux_lemma => kernel_rfl)
theorem named : Tryz.pinned.checked.prog.funcNamed Rows.tzifLeastRow.func = some 5 := by kernel_rfl
theorem said : Rows.TzifLeastSaid :=
 OpenClaim.holds_of_wide 5 Tryz.f5 rfl rfl rfl rfl rfl rfl rfl ⟨rfl, rfl, rfl, rfl, rfl⟩ rfl rfl rfl rfl rfl named Tryz.func5 facts
  (of_decide_eq_true (by kernel_rfl)) (by unfold Func.isWrapper; first | (rw [if_pos (by decide +kernel)]; kernel_rfl) | (rw [if_neg (by decide +kernel)]; exact ⟨rfl, rfl⟩))
  (fun os started H enc _ => lifted os started H enc)
theorem plain (f : FuncId) (fn : Func) (hf : Tryz.pinned.checked.prog.funcNamed "analemma/analemmalaw42.TzifLeast" = some f) (hfn : Tryz.pinned.checked.prog.funcs[f]? = some fn) :
 true = Tryz.pinned.checked.prog.looks [] ∧ ∀ (j : Nat) t, fn.params[j]? = some t → Tryz.pinned.checked.prog.wantsStandIn t = false := by
 obtain rfl : f = 5 := Option.some.inj ((show Tryz.prog.funcNamed "analemma/analemmalaw42.TzifLeast" = some 5 by kernel_rfl).symm.trans hf) |>.symm
 obtain rfl : fn = Tryz.f5 := (Option.some.inj (Tryz.func5.symm.trans hfn)).symm
 refine ⟨by kernel_rfl, fun j t ht => ?_⟩
 rw [Tryz.params5] at ht
 have hm : t ∈ [41] := by simpa using Array.mem_of_getElem? ht
 have hall : ([41].all fun u => !Tryz.prog.wantsStandIn u) = true := by kernel_rfl
 exact (show Tryz.prog.wantsStandIn t = false by simpa using List.all_eq_true.1 hall t hm)
theorem card : Rows.TzifLeastCardSaid :=
 Claim7.holds_tied_plain_at .later [] _ _ _ _ said (fun _ h => by cases h) (by kernel_rfl) (fun _ h => by cases h) tzifLeast_row_tie rfl ⟨rfl, rfl⟩ (by kernel_rfl) rfl plain (by kernel_rfl)
end tzifLeast
#print axioms tzifLeast.card
end Go.Proofs.YtkpmmabdpeobaaaGreatDoor
