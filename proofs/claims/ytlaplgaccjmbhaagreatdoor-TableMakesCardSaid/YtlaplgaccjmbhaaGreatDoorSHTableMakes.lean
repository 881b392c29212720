/- The law TableMakes: the walk. The law TableMakes returns true for every first local time, all instants and local times and every footer, and its tied card holds; no condition beyond the row itself. -/
import Derived.Test.YtlaplgaccjmbhaaGreatDoorSG28
import Derived.Test.YtlaplgaccjmbhaaGreatDoorSG24
import Derived.Test.YtlaplgaccjmbhaaGreatDoorSG27
import Derived.Test.YtlaplgaccjmbhaaGreatDoorSG13
import Derived.Test.YtlaplgaccjmbhaaGreatDoorSG14
namespace Go.Proofs.YtlaplgaccjmbhaaGreatDoor.Px
open Go.RowKit
open Civ Tb
theorem wpList_append_eq_g {P : Program} {w : World} {ops : Array Oper} {rest : List Oper} {o : Oper} {a : Act} {Q : Exit → Act → World → Prop} (hgd : Region.wanted o (yielded ops a.tmps) = true) (s x : Operand) (t : TypeId)
    (ho : o.op = .call { callee := .builtin .append, args := #[s, x], argTypes := #[t, t] }) (vs vx v' : Value) (w' : World) (hs : a.eval s = vs) (hx : a.eval x = vx) (hr : (Builtin.append_ #[t, t] o.type #[vs, vx]).run P w = .ok v' w')
    (h : wpList P ops Q rest (a.put o.dst v') w') : wpList P ops Q (o :: rest) a w := by
  refine wpList_step fun K hK => ?_
  rw [if_pos hgd]
  unfold Oper.wp execOp
  simp only [ho, resolve, invoke, builtin, Sem.run_bind, Sem.run_pure, Result.andThen_ok, List.map_toArray, List.map_cons, List.map_nil, hs, hx, hr]
  exact hK _ _ h
set_option maxHeartbeats 16000000 in
set_option maxRecDepth 100000 in
theorem tableMakes_cells (first : Lc) (at' : List Int) (l : List Lc) (av lv : Value) (s : ByteArray) (W : World) (hA : IsV W .i64 av at') (hL : LcV W lv l) (hnil : ∀ c, lv = .slice none l.length c → c = 0) (hfF : Lc.Fit first) (hfl : ∀ x ∈ l, Lc.Fit x)
    (hfa : ∀ t ∈ at', (Lit.int .i64 t).wf = true) (hs : s.size ≤ maxLen) (hE : EnvAt W) :
    Calls Tryz.prog 9 #[first.val, av, lv, .string s] W fun e w' => e = .returned (.bool true) ∧ Below W.heap.size W w' := by
  have hsb : bs s.data.toList = s := bs_back s
  obtain ⟨sl, hsl⟩ : ∃ l, s.data.toList = l := ⟨_, rfl⟩
  rw [hsl] at hsb
  obtain ⟨aa, ac, hav, _, _⟩ := hA.slice
  obtain ⟨la, lc, hlv, _, _⟩ := hL.slice
  obtain ⟨K, hK⟩ : ∃ n, at'.length = n := ⟨_, rfl⟩
  obtain ⟨M, hM⟩ : ∃ n, l.length = n := ⟨_, rfl⟩
  rw [hK] at hav
  rw [hM] at hlv hnil
  subst hav hlv
  have HA := Lib.hid hA
  have HL := Lib.hid hL
  have HE := Lib.hid hE
  have HNil := Lib.hid hnil
  have HFl := Lib.hid hfl
  have HFa := Lib.hid hfa
  have HF := Lib.hid hfF
  have HS := Lib.hid hsb
  have HM := Lib.hid hM
  have HK := Lib.hid hK
  have HSz := Lib.hid hs
  have CW := Lib.hid (fun w hE => works40_any w hE)
  obtain ⟨⟨fo, fd, fa⟩, hf0⟩ : ∃ x, first = x := ⟨_, rfl⟩
  have HF0 := Lib.hid hf0
  have K0 := Lib.hid ((Kp.start W).alloc (.cells #[.int .i64 fo, .bool fd, .string fa] 28))
  rw [hf0]
  unfold Lc.val
  dsimp only
  clear hA hL hE hnil hfl hfa hfF hsb hsl hK hM hs hf0
  by_cases h1 : K ≤ 80
  case neg =>
    have j1 : 80 < (K : Int) := by omega
    go_enter Tryz.func9, Tryz.ntmps9
    go_wp2_with fail
    refine (CW.out _ (HE.out.keep K0.out.below)).mono ?_
    rintro _ V ⟨rfl, hb⟩
    have K1 := Lib.hid (K0.out.keep hb)
    clear hb
    go_wp2_with fail
    go_ret
    exact ⟨rfl, K1.out.below⟩
  have j1 : ¬ 80 < (K : Int) := by omega
  by_cases h2 : M ≤ 80
  case neg =>
    have j2 : 80 < (M : Int) := by omega
    go_enter Tryz.func9, Tryz.ntmps9
    go_wp2_with fail
    refine (CW.out _ (HE.out.keep K0.out.below)).mono ?_
    rintro _ V ⟨rfl, hb⟩
    have K1 := Lib.hid (K0.out.keep hb)
    clear hb
    go_wp2_with fail
    go_ret
    exact ⟨rfl, K1.out.below⟩
  have j2 : ¬ 80 < (M : Int) := by omega
  have K1 := Lib.hid ((K0.out.allocAt (W.heap.size + 1) (by simp) (.cells #[.int .i64 fo, .bool fd, .string fa] 28)).own_block 3 1 1 (by omega) (by unfold maxLen; omega) rfl)
  obtain ⟨v', w1, hr, hk⟩ := append_list K1.out l (.slice la M lc) (HL.out.keep K1.out.below) (fun c e => HNil.out c (by rw [HM.out] at e; exact e)) (by have := HM.out; omega)
  rw [HM.out] at hk
  obtain ⟨xa, xc, rfl⟩ : ∃ a c, v' = .slice a (1 + M) c := own_slice (hk.row 0 rfl)
  have HR := Lib.hid hr
  have K2 := Lib.hid hk
  have HX := Lib.hid (show TabV w1 (.slice xa (1 + M) xc) (.slice none 0 0) s ⟨first :: l, [], sl⟩ from ⟨LcV.own (B := W.heap.size) (e := 28) (n := 1 + M) (by rw [HF0.out]; exact hk.row 0 rfl) (by rw [List.length_cons, HM.out]; omega), TrV.nil _, HS.out.symm, fun x hx => by
    rcases List.mem_cons.1 hx with rfl | hx
    · exact HF.out
    · exact HFl.out x hx, fun _ h => by cases h⟩)
  have CF := Lib.hid (few_any ⟨first :: l, [], sl⟩ (.slice xa (1 + M) xc) (.slice none 0 0) s w1 HX.out HSz.out)
  obtain ⟨b, hb0⟩ : ∃ b, fewB ⟨first :: l, [], sl⟩ s.size = b := ⟨_, rfl⟩
  rw [hb0] at CF
  clear hr hk hb0
  cases b
  · go_enter Tryz.func9, Tryz.ntmps9
    go_wp2_with (at_builtin; refine wpList_append_eq_g rfl _ _ 22 rfl _ _ (.slice xa (1 + M) xc) w1 rfl rfl HR.out ?_)
    refine CF.out.mono ?_
    rintro _ V ⟨rfl, hb⟩
    have K3 := Lib.hid (K2.out.keep hb)
    clear hb
    go_wp2_with fail
    refine (CW.out _ (HE.out.keep K3.out.below)).mono ?_
    rintro _ V2 ⟨rfl, hb⟩
    have K4 := Lib.hid (K3.out.keep hb)
    clear hb
    go_wp2_with fail
    go_ret
    exact ⟨rfl, K4.out.below⟩
  have CO := Lib.hid (fun w h1 h2 h3 => of_any first at' l (.slice aa K ac) (.slice la M lc) sl w h1 h2 (fun c e => HNil.out c (by rw [HM.out] at e; exact e)) HF.out HFl.out HFa.out h3 (by have := HM.out; omega))
  have CP := Lib.hid (fun w h1 h2 => rof_any first at' l (.slice aa K ac) (.slice la M lc) sl w h1 h2 HF.out HFl.out HFa.out (by have := HM.out; omega))
  obtain ⟨⟨X, E⟩, hX⟩ : ∃ x, ofT first at' l sl = x := ⟨_, rfl⟩
  rw [hX, HS.out, HF0.out] at CO CP
  unfold Lc.val at CO CP
  dsimp only at CO CP
  have CS := Lib.hid (fun tv rv tv' rv' w h h' => rsame_any X X tv rv tv' rv' (bs X.foot) (bs X.foot) w h h')
  rw [same_self X] at CS
  clear hX
  go_enter Tryz.func9, Tryz.ntmps9
  go_wp2_with (at_builtin; refine wpList_append_eq_g rfl _ _ 22 rfl _ _ (.slice xa (1 + M) xc) w1 rfl rfl HR.out ?_)
  refine CF.out.mono ?_
  rintro _ V ⟨rfl, hb⟩
  have K3 := Lib.hid ((K2.out.keep hb).less (List.nil_sublist _))
  clear hb
  obtain ⟨⟨x0, x1, x2⟩, _, _, _⟩ := row3 (K3.out.at 0 rfl)
  go_wp2_with fail
  refine (CO.out _ (HA.out.keep K3.out.below) (HL.out.keep K3.out.below) (HE.out.keep K3.out.below)).mono ?_
  rintro _ V2 ⟨tv, rv, rfl, hk, hf⟩
  have hk1 := K3.out.adopt hk
  obtain ⟨t1, t2, rfl⟩ : ∃ a c, tv = .slice a X.types.length c := own_slice (hk1.row 1 rfl)
  obtain ⟨r1, r2, rfl⟩ : ∃ a c, rv = .slice a X.trans.length c := own_slice (hk1.row 0 rfl)
  have HT1 := Lib.hid (hk1.tab hf)
  have K4 := Lib.hid (hk1.alloc (.cells #[.slice t1 X.types.length t2, .slice r1 X.trans.length r2, .string (bs X.foot)] 25))
  clear hk hk1 hf x0 x1 x2
  obtain ⟨⟨x0, x1, x2⟩, _, _, _⟩ := row3 (K4.out.at 1 rfl)
  go_wp2_with fail
  refine (CP.out _ (HA.out.keep K4.out.below) (HL.out.keep K4.out.below)).mono ?_
  rintro _ V3 ⟨tv, rv, rfl, hk, hf⟩
  have hk1 := K4.out.adopt hk
  obtain ⟨u1, u2, rfl⟩ : ∃ a c, tv = .slice a X.types.length c := own_slice (hk1.row 1 rfl)
  obtain ⟨q1, q2, rfl⟩ : ∃ a c, rv = .slice a X.trans.length c := own_slice (hk1.row 0 rfl)
  have HT2 := Lib.hid (hk1.tab hf)
  have HT3 := Lib.hid (show TabV V3 (.slice t1 X.types.length t2) (.slice r1 X.trans.length r2) (bs X.foot) X from ⟨LcV.own (hk1.row 3 rfl) rfl, TrV.own (hk1.row 2 rfl) rfl, rfl, hf.lcs, hf.trs⟩)
  have K5 := Lib.hid (hk1.alloc (.cells #[.slice u1 X.types.length u2, .slice q1 X.trans.length q2, .string (bs X.foot)] 25))
  clear hk hk1 hf x0 x1 x2
  obtain ⟨⟨x0, x1, x2⟩, _, _, _⟩ := row3 (K5.out.at 1 rfl)
  have hz := K5.out.lt 1 rfl
  have HB5 := Lib.hid ((Below.refl V3.heap.size V3).alloc (Nat.le_refl _) (.cells #[.slice u1 X.types.length u2, .slice q1 X.trans.length q2, .string (bs X.foot)] 25))
  go_wp2_with fail
  refine (CS.out _ _ _ _ _ (HT3.out.keep HB5.out) (HT2.out.keep HB5.out)).mono ?_
  rintro _ V4 ⟨rfl, hb⟩
  have K6 := Lib.hid (K5.out.keep hb)
  clear hb x0 x1 x2
  go_wp2_with fail
  refine (CW.out _ (HE.out.keep K6.out.below)).mono ?_
  rintro _ V5 ⟨rfl, hb⟩
  have K7 := Lib.hid (K6.out.keep hb)
  clear hb
  go_wp2_with fail
  go_ret
  exact ⟨rfl, K7.out.below⟩
end Go.Proofs.YtlaplgaccjmbhaaGreatDoor.Px
namespace Go.Proofs.YtlaplgaccjmbhaaGreatDoor.Px
open Go.RowKit
open Civ Tb
theorem tableMakes_walk (first : Lc) (hF : Lc.Fit first) (at' : List Int) (av : Value) {W : World} (hA : IsV W .i64 av at') (hfa : ∀ t ∈ at', (Lit.int .i64 t).wf = true) (l : List Lc) (lv : Value) (hL : LcV W lv l) (hfl : ∀ x ∈ l, Lc.Fit x) (hnil : ∀ c, lv = .slice none l.length c → c = 0) (s : ByteArray) (hs : s.size ≤ maxLen) (hE : EnvAt W) :
    Calls Tryz.prog 9 #[first.val, av, lv, .string s] W fun e w' => e = .returned (.bool true) ∧ Below W.heap.size W w' :=
  tableMakes_cells first at' l av lv s W hA hL hnil hF hfl hfa hs hE
end Go.Proofs.YtlaplgaccjmbhaaGreatDoor.Px
namespace Go.Proofs.YtlaplgaccjmbhaaGreatDoor
open Go.ChangeShapes Go.WideShapes Go.ChangeAt Go.RowKit
open Go.ChangeMaps (open_string)
namespace tableMakes
theorem own : ownKnob Tryz.prog.godebug = none := by kernel_rfl
set_option maxRecDepth 100000 in
theorem lifted (os : Os) (started : os.Started) (H : Type) (enc : TypeId × Value → H) :
    ReturnsInHanded {} Tryz.checked os 9 .any (fun w args => (Rows.tableMakesSpec.pre enc Tryz.prog Tryz.f9 Rows.tableMakesRow.domain false w args ∧ laidMetH Tryz.prog Rows.tableMakesRow.laid w) ∧ sizedMet enc Tryz.prog Tryz.f9 (OpenSpec.ofChange Rows.tableMakesSpec) false w args)
      (Rows.tableMakesSpec.post enc Tryz.prog Tryz.f9 false true false false) := by
  refine returnsInHanded_of_change_and (C := Tryz.checked) (X := fun w _ => laidMetH Tryz.prog Rows.tableMakesRow.laid w) (fun _ _ _ hh h => h.of_heap hh) own started (by kernel_rfl) Tryz.func9
    (ChangeSpec.witness_shaped (enc := enc) (C := Tryz.checked) (os := os) (X := fun w _ => laidMetH Tryz.prog Rows.tableMakesRow.laid w) false ((World.doorLaid Tryz.prog 4000 os).layVars Tryz.prog [("unicode/utf8.first", Rows.laid_unicode_utf8_first)]) #[.agg #[.int .i64 0, .bool false, .string ByteArray.empty], .slice none 0 0, .slice none 0 0, .string ByteArray.empty] 8 (door_os os)
      (World.shaped_of_ZipB (by kernel_rfl) (by kernel_rfl)) (by kernel_rfl) (by kernel_rfl) (by kernel_rfl) (door_met os _)) ?_
  intro W base args ds gs before hval0 hW _ _ hL _
  have hval : ∀ (j : Nat) t v, Tryz.f9.params[j]? = some t → args[j]? = some v → Value.okWide Tryz.prog W .any base t v := hval0
  have hEnv : Px.EnvAt W := Px.env_of hL
  have hW' := hW
  obtain ⟨p, q, hA0, hV, rfl, _, _⟩ := hW
  have hA : DataW.TrodAll enc Tryz.prog W 0 (fun _ => true) true Tryz.f9.params.toList args.toList ds p := hA0
  rw [Tryz.params9] at hA hval
  obtain ⟨v0, vs0, d0, ds0, p0, q0, hargs, rfl, rfl, h0, r0⟩ := trodAll_cons hA
  obtain ⟨v1, vs1, d1, ds1, p1, q1, rfl, rfl, rfl, h1, r1⟩ := trodAll_cons r0
  obtain ⟨v2, vs2, d2, ds2, p2, q2, rfl, rfl, rfl, h2, r2⟩ := trodAll_cons r1
  obtain ⟨v3, vs3, d3, ds3, p3, q3, rfl, rfl, rfl, h3, r3⟩ := trodAll_cons r2
  obtain ⟨rfl, rfl, rfl⟩ := trodAll_nil r3
  obtain rfl : args = #[v0, v1, v2, v3] := by cases args; simp_all
  obtain ⟨rfl, rfl⟩ := trodVars_none hV
  obtain ⟨x0, rfl, hx0⟩ := Px.open_lc (hval 0 28 v0 rfl rfl) h0
  obtain ⟨x1, hx1, hf1⟩ := Px.open_i64s (hval 1 42 v1 rfl rfl) h1
  obtain ⟨x2, hx2, hf2, hn2⟩ := Px.open_lcs_arg (hval 2 22 v2 rfl rfl) h2
  obtain ⟨s3, rfl, rfl, rfl, hs3⟩ := open_string Tryz.underlying9 (hval 3 9 v3 rfl rfl) h3
  refine (Px.tableMakes_walk x0 hx0 x1 v1 hx1 hf1 x2 v2 hx2 hf2 hn2 s3 hs3 hEnv).mono fun e W' ⟨he, hB⟩ => ?_
  subst he
  refine ⟨_, rfl, post_law (by kernel_rfl) ?_ rfl hW' rfl rfl Tryz.underlying4 hB⟩
  rw [Tryz.params9]
  intro t ht
  have hall : ([28, 42, 22, 9].all fun u => Tryz.prog.readableRec u && decide (u < Tryz.prog.types.size)) = true := by kernel_rfl
  have h1 := List.all_eq_true.1 hall t ht
  have h2 : Tryz.prog.readableRec t = true ∧ t < Tryz.prog.types.size := by simpa using h1
  exact h2
set_option maxHeartbeats 8000000 in
theorem facts : joinedFacts Tryz.pinned.checked.prog 9 Tryz.f9 Rows.tableMakesSpec Rows.tableMakesRow = true := by
  simp only [joinedFacts, Bool.and_eq_true]
  and_intros
  all_goals (as_aux_lemma => kernel_rfl)
theorem named : Tryz.pinned.checked.prog.funcNamed Rows.tableMakesRow.func = some 9 := by kernel_rfl
theorem said : Rows.TableMakesSaid :=
  OpenClaim.holds_of_wide 9 Tryz.f9 rfl rfl rfl rfl rfl rfl rfl ⟨rfl, rfl, rfl, rfl, rfl⟩ rfl rfl rfl rfl rfl named Tryz.func9 facts
    (of_decide_eq_true (by kernel_rfl)) (by unfold Func.isWrapper; first | (rw [if_pos (by decide +kernel)]; kernel_rfl) | (rw [if_neg (by decide +kernel)]; exact ⟨rfl, rfl⟩))
    (fun os started H enc _ => lifted os started H enc)
theorem plain (f : FuncId) (fn : Func) (hf : Tryz.pinned.checked.prog.funcNamed "analemma/analemmalaw40.TableMakes" = some f) (hfn : Tryz.pinned.checked.prog.funcs[f]? = some fn) :
    true = Tryz.pinned.checked.prog.looks [] ∧ ∀ (j : Nat) t, fn.params[j]? = some t → Tryz.pinned.checked.prog.wantsStandIn t = false := by
  obtain rfl : f = 9 := Option.some.inj ((show Tryz.prog.funcNamed "analemma/analemmalaw40.TableMakes" = some 9 by kernel_rfl).symm.trans hf) |>.symm
  obtain rfl : fn = Tryz.f9 := (Option.some.inj (Tryz.func9.symm.trans hfn)).symm
  refine ⟨by kernel_rfl, fun j t ht => ?_⟩
  rw [Tryz.params9] at ht
  have hm : t ∈ [28, 42, 22, 9] := by simpa using Array.mem_of_getElem? ht
  have hall : ([28, 42, 22, 9].all fun u => !Tryz.prog.wantsStandIn u) = true := by kernel_rfl
  exact (show Tryz.prog.wantsStandIn t = false by simpa using List.all_eq_true.1 hall t hm)
theorem card : Rows.TableMakesCardSaid :=
  Claim7.holds_tied_plain_at .later [] _ _ _ _ said (fun _ h => by cases h) (by kernel_rfl) (fun _ h => by cases h) tableMakes_row_tie rfl ⟨rfl, rfl⟩ (by kernel_rfl) rfl plain (by kernel_rfl)
end tableMakes
#print axioms tableMakes.card
end Go.Proofs.YtlaplgaccjmbhaaGreatDoor

