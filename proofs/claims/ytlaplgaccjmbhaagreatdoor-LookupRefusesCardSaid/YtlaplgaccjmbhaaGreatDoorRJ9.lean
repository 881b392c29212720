/- The law LookupRefuses returns true for every table by numbers, kind of fault and distance: the walk. -/
import Derived.Test.YtlaplgaccjmbhaaGreatDoorRJ7
import Derived.Deep.RegionHeldLaw
import Derived.Test.YtlaplgaccjmbhaaGreatDoorSG7
namespace Go.Proofs.YtlaplgaccjmbhaaGreatDoor.Px
open Go.RowKit
open Civ Tb
theorem Kp.two_rows {L : List (Nat × Obj)} {R : List Rw} {r s : Rw} {w X : World} (h : Kp L (r :: s :: R) w X) : Kp L [r, s] w X := h.less (List.Sublist.cons_cons _ (List.Sublist.cons_cons _ (List.nil_sublist _)))
theorem Kp.sameAs {L : List (Nat × Obj)} {R : List Rw} {w X Y : World} (h : Kp L R w X) (hY : Y = X) : Kp L R w Y := by subst hY; exact h
theorem take_upd {cur : Array Value} {m i : Nat} {u : Value} : (cur.setIfInBounds i u).toList.take m = (cur.toList.take m).set i u := by
  rw [Array.toList_setIfInBounds, List.take_set]
set_option maxHeartbeats 16000000 in
set_option maxRecDepth 100000 in
theorem refuses_cells (n0 n1 o0 o1 k0 k1 d0 d1 s0 s1 : Int) (q : Bool) (fi : Int) (G K : List Int) (gv kv : Value) (what far : Int) (W : World) (h : D45V W gv kv ⟨⟨n0, n1, o0, o1, k0, k1, d0, d1, s0, s1, q⟩, fi, G, K⟩) (hin : D45.In ⟨⟨n0, n1, o0, o1, k0, k1, d0, d1, s0, s1, q⟩, fi, G, K⟩)
    (a0 : 0 ≤ what) (a1 : what ≤ 255) (l0 : 0 ≤ far) (l1 : far ≤ 4294967295) (hE : EnvAt W) :
    Calls Tryz.prog 7 #[.agg #[.int .u8 n0, .int .u8 n1, .int .u8 o0, .int .u8 o1, .int .u8 k0, .int .u8 k1, .int .u8 d0, .int .u8 d1, .int .u8 s0, .int .u8 s1, .bool q, .int .i32 fi, gv, kv], .int .u8 what, .int .u32 far] W fun e w' => e = .returned (.bool true) ∧ Below W.heap.size W w' := by
  have CM := Lib.hid (fun w h hE => made45_any n0 n1 o0 o1 k0 k1 d0 d1 s0 s1 q fi G K gv kv w h hin hE)
  have CW := Lib.hid (fun w hE => works45_any w hE)
  obtain ⟨D, hD⟩ : ∃ D, (⟨⟨n0, n1, o0, o1, k0, k1, d0, d1, s0, s1, q⟩, fi, G, K⟩ : D45) = D := ⟨_, rfl⟩
  rw [hD] at CM h hin
  obtain ⟨ga, gc, hgv, _, _⟩ := h.gaps.slice
  obtain ⟨ka, kc, hkv, _, _⟩ := h.kinds.slice
  obtain ⟨gn, hgn⟩ : ∃ n, D.gaps.length = n := ⟨_, rfl⟩
  obtain ⟨kn, hkn⟩ : ∃ n, D.kinds.length = n := ⟨_, rfl⟩
  rw [hgn] at hgv
  rw [hkn] at hkv
  subst hgv hkv
  have hr := made45_right D hin
  have hlen := made45_len D
  have hty := typesE_zero (check_zero hr).1
  have hcut := cut_is D.foot hin.fo
  have hmore : checkE ⟨D.made.types, D.made.trans, printL D.pos ++ [32]⟩ ≠ 0 := check_foot_ne hr hcut.more
  have hfl : (printL D.pos).length ≤ 74 := hcut.len
  have hfo : D.made.foot = printL D.pos := rfl
  obtain ⟨S, hS⟩ : ∃ S, printL D.pos = S := ⟨_, rfl⟩
  obtain ⟨T, hT⟩ : ∃ T, D.made = T := ⟨_, rfl⟩
  rw [hS] at hmore hfl hfo
  rw [hT] at CM hr hlen hty hmore hfo
  have hp1 := spoilt_none T
  have hp2 := spoilt_order hr
  have hp3 := spoilt_first hr
  have hp4 := spoilt_abbr T
  have hp5 := spoilt_more hr
  rw [hfo] at CM hp1 hp2 hp3 hp4 hp5
  obtain ⟨M, hM⟩ : ∃ n, T.types.length = n := ⟨_, rfl⟩
  obtain ⟨N, hN⟩ : ∃ n, T.trans.length = n := ⟨_, rfl⟩
  have hM0 : 0 < M ∧ M ≤ 254 := ⟨by rw [← hM]; exact List.length_pos_iff.2 hty.1, by rw [← hM]; exact hty.2.1⟩
  obtain ⟨hM0, hM1⟩ := hM0
  have hN1 : N ≤ 30 := by omega
  have C3 := Lib.hid (fun (tv rv : Value) (b c d : Nat) (w : World) h0 h1 h2 h3 h4 => refused_any T tv rv (bs S) 3 (by decide) (36028797018963969 + far) (-36028797018963969 - far) 9223372036854775807 (-9223372036854775808) b c d w h0 h1 h2 h3 h4 (idxE_rng hr (by omega)) (idxE_rng hr (by omega)) (idxE_rng hr (by omega)) (idxE_rng hr (by omega)) (by omega))
  have C2 := Lib.hid (fun (x : Tab) (hx : checkE x ≠ 0) (hx2 : x.trans.length ≤ 1000) (tv rv : Value) (f : ByteArray) (b c d : Nat) (w : World) h0 h1 h2 h3 h4 => refused_any x tv rv f 2 (by decide) (36028797018963969 + far) (-36028797018963969 - far) 9223372036854775807 (-9223372036854775808) b c d w h0 h1 h2 h3 h4 (idxE_bad hx) (idxE_bad hx) (idxE_bad hx) (idxE_bad hx) (by omega))
  have P0 := Lib.hid hmore
  have P1 := Lib.hid hp1
  have P2 := Lib.hid hp2
  have P3 := Lib.hid hp3
  have P4 := Lib.hid hp4
  have P5 := Lib.hid hp5
  have HFo := Lib.hid hfo
  have HM := Lib.hid hM
  have HN := Lib.hid hN
  have HH := Lib.hid h
  have HE := Lib.hid hE
  have hz := bs_size S
  have hadd : ¬ 9223372036854775807 < (bs S).size + 1 := by omega
  have f0 : IntKind.i64.wrap (36028797018963969 + far) = 36028797018963969 + far := IntWalk.i64_in _ (by omega)
  have f1 : IntKind.i64.wrap (-36028797018963969 - far) = -36028797018963969 - far := IntWalk.i64_in _ (by omega)
  have K0 := Lib.hid ((Kp.start W).alloc (.cells #[.int .u8 n0, .int .u8 n1, .int .u8 o0, .int .u8 o1, .int .u8 k0, .int .u8 k1, .int .u8 d0, .int .u8 d1, .int .u8 s0, .int .u8 s1, .bool q, .int .i32 fi, .slice ga gn gc, .slice ka kn kc] 41))
  have e25 : ∀ args w, (callFunc 25 args).run Tryz.prog w = .ok (.enter 25 args) w := enters_of Tryz.func25 (by kernel_rfl) rfl
  clear h hE hin hD hr hT hgn hkn hty hcut hmore hfl hS hp1 hp2 hp3 hp4 hp5 hM hN hlen hfo hz
  go_enter Tryz.func7, Tryz.ntmps7
  go_wp2_with fail
  refine (CM.out _ (HH.out.keep K0.out.below) (HE.out.keep K0.out.below)).mono ?_
  rintro _ V ⟨tv, rv, rfl, hk, hf⟩
  have hk1 := K0.out.adopt hk
  obtain ⟨ta, tc, rfl⟩ : ∃ a c, tv = .slice a T.types.length c := own_slice (hk1.row 1 rfl)
  obtain ⟨ra, rc, rfl⟩ : ∃ a c, rv = .slice a T.trans.length c := own_slice (hk1.row 0 rfl)
  rw [HN.out, HM.out] at hk1 ⊢
  have K1 := Lib.hid (((hk1.alloc (.cells #[.slice ta M tc, .slice ra N rc, .string (bs S)] 25)).allocAt (V.heap.size + 1) (by simp) (.cells #[.int .i64 (36028797018963969 + far), .int .i64 (-36028797018963969 - far), .int .i64 9223372036854775807, .int .i64 (-9223372036854775808)] 2)).allocAt (V.heap.size + 1 + 1) (by simp) (.cells #[.slice (some ⟨V.heap.size + 1, 0, none⟩) 4 4] 42))
  have HF := Lib.hid hf
  have HTV : Hid (∀ {L : List (Nat × Obj)} {R : List Rw} {tv rv : Value} {X : World}, Kp L (tabR tv rv T ++ R) W X → TabV X tv rv (bs S) T) := Lib.hid (by
    intro h
    rw [← HFo.out]
    exact h.tab hf)
  clear hk hk1 hf
  go_wp2_with fail
  refine (C3.out _ _ _ _ _ _ (HE.out.keep K1.out.below) (HTV.out K1.out) (K1.out.at 0 rfl) (K1.out.at 1 rfl) (K1.out.at 2 rfl)).mono ?_
  rintro _ V2 ⟨rfl, hb⟩
  have K2 := Lib.hid (K1.out.keep hb)
  clear hb C3 K0 K1
  go_upto_region 9 with fail
  go_cut [8] (fun v8 wx => v8 = .bool true ∧ ∃ tv rv, Kp [(V.heap.size + 1 + 1, .cells #[.slice (some ⟨V.heap.size + 1, 0, none⟩) 4 4] 42 (0, 0)), (V.heap.size + 1, .cells #[.int .i64 (36028797018963969 + far), .int .i64 (-36028797018963969 - far), .int .i64 9223372036854775807, .int .i64 (-9223372036854775808)] 2 (0, 0)), (V.heap.size, .cells #[tv, rv, .string (bs S)] 25 (0, 0)), (W.heap.size, .cells #[.int .u8 n0, .int .u8 n1, .int .u8 o0, .int .u8 o1, .int .u8 k0, .int .u8 k1, .int .u8 d0, .int .u8 d1, .int .u8 s0, .int .u8 s1, .bool q, .int .i32 fi, .slice ga gn gc, .slice ka kn kc] 41 (0, 0))] (tabR tv rv T ++ []) W wx)
  case first =>
    obtain ⟨⟨x0, x1, x2⟩, s0', s1', s2'⟩ := row3 (K2.out.at 2 rfl)
    have z0 := K2.out.lt 2 rfl
    go_region_law (first
      | (go_simp; go_at_call 26; refine (clone_lcs T.types _ _ (LcV.own (K2.out.drew.row 1 rfl) rfl) (own_nil (K2.out.drew.row 1 rfl)) (by have := HM.out; omega)).mono ?_; rintro _ V3 ⟨v1, rfl, hk⟩; have hk1 := K2.out.drew.adopt hk; obtain ⟨a1, c1, rfl⟩ : ∃ a c, v1 = .slice a T.types.length c := own_slice (hk1.row 0 rfl); have KA := Lib.hid hk1; have KAs := Lib.hid (hk1.set 2 rfl 0 (.slice a1 T.types.length c1) rfl); obtain ⟨⟨x0, x1, x2⟩, s0', s1', s2'⟩ := row3 (KA.out.at 2 rfl); have z0 := KA.out.lt 2 rfl; clear hk hk1)
      | (go_simp; go_at_call 27; refine (clone_trs T.trans _ _ (TrV.own (K2.out.drew.row 0 rfl) rfl) (own_nil (K2.out.drew.row 0 rfl)) (by have := HN.out; omega)).mono ?_; rintro _ V3 ⟨v1, rfl, hk⟩; have hk1 := K2.out.drew.adopt hk; obtain ⟨a2, c2, rfl⟩ : ∃ a c, v1 = .slice a T.trans.length c := own_slice (hk1.row 0 rfl); have KB := Lib.hid hk1; have KBs := Lib.hid (hk1.set 2 rfl 1 (.slice a2 T.trans.length c2) rfl); obtain ⟨⟨x0, x1, x2⟩, s0', s1', s2'⟩ := row3 (KB.out.at 2 rfl); have z0 := KB.out.lt 2 rfl; clear hk hk1)
      | (go_simp; go_at_call 27; refine (clone_trs T.trans _ _ (TrV.own (KA.out.row 1 rfl) rfl) (own_nil (KA.out.row 1 rfl)) (by have := HN.out; omega)).mono ?_; rintro _ V4 ⟨v1, rfl, hk⟩; have hk1 := KA.out.adopt hk; obtain ⟨a2, c2, rfl⟩ : ∃ a c, v1 = .slice a T.trans.length c := own_slice (hk1.row 0 rfl); have KZ := Lib.hid (hk1.two_rows); obtain ⟨⟨x0, x1, x2⟩, s0', s1', s2'⟩ := row3 (KZ.out.at 2 rfl); have z0 := KZ.out.lt 2 rfl; clear hk hk1)
      | (go_simp; go_at_call 27; refine (clone_trs T.trans _ _ (TrV.own (KAs.out.row 1 rfl) rfl) (own_nil (KAs.out.row 1 rfl)) (by have := HN.out; omega)).mono ?_; rintro _ V4 ⟨v1, rfl, hk⟩; have hk1 := KAs.out.adopt hk; obtain ⟨a2, c2, rfl⟩ : ∃ a c, v1 = .slice a T.trans.length c := own_slice (hk1.row 0 rfl); have KZ := Lib.hid (hk1.two_rows); obtain ⟨⟨x0, x1, x2⟩, s0', s1', s2'⟩ := row3 (KZ.out.at 2 rfl); have z0 := KZ.out.lt 2 rfl; clear hk hk1)
      | (go_simp; go_at_call 26; refine (clone_lcs T.types _ _ (LcV.own (KB.out.row 2 rfl) rfl) (own_nil (KB.out.row 2 rfl)) (by have := HM.out; omega)).mono ?_; rintro _ V4 ⟨v1, rfl, hk⟩; have hk1 := KB.out.adopt hk; obtain ⟨a1, c1, rfl⟩ : ∃ a c, v1 = .slice a T.types.length c := own_slice (hk1.row 0 rfl); have KZ := Lib.hid (hk1.two_rows.swap); obtain ⟨⟨x0, x1, x2⟩, s0', s1', s2'⟩ := row3 (KZ.out.at 2 rfl); have z0 := KZ.out.lt 2 rfl; clear hk hk1)
      | (go_simp; go_at_call 26; refine (clone_lcs T.types _ _ (LcV.own (KBs.out.row 2 rfl) rfl) (own_nil (KBs.out.row 2 rfl)) (by have := HM.out; omega)).mono ?_; rintro _ V4 ⟨v1, rfl, hk⟩; have hk1 := KBs.out.adopt hk; obtain ⟨a1, c1, rfl⟩ : ∃ a c, v1 = .slice a T.types.length c := own_slice (hk1.row 0 rfl); have KZ := Lib.hid (hk1.two_rows.swap); obtain ⟨⟨x0, x1, x2⟩, s0', s1', s2'⟩ := row3 (KZ.out.at 2 rfl); have z0 := KZ.out.lt 2 rfl; clear hk hk1))
    all_goals
      go_wp2_with fail
      go_meet
      refine ⟨rfl, .slice a1 T.types.length c1, .slice a2 T.trans.length c2, ?_⟩
      first
        | exact Kp.sameAs ((KZ.out.set 2 rfl 0 (.slice a1 T.types.length c1) rfl).set 2 rfl 1 (.slice a2 T.trans.length c2) rfl) (by with_reducible rfl)
        | exact Kp.sameAs ((KZ.out.set 2 rfl 1 (.slice a2 T.trans.length c2) rfl).set 2 rfl 0 (.slice a1 T.types.length c1) rfl) (by with_reducible rfl)
        | exact Kp.sameAs (KZ.out.set 2 rfl 1 (.slice a2 T.trans.length c2) rfl) (by with_reducible rfl)
        | exact Kp.sameAs (KZ.out.set 2 rfl 0 (.slice a1 T.types.length c1) rfl) (by with_reducible rfl)
  case rest =>
    obtain ⟨rfl, tv, rv, hk⟩ := hcut
    obtain ⟨a1, c1, rfl⟩ : ∃ a c, tv = .slice a T.types.length c := own_slice (hk.row 1 rfl)
    obtain ⟨a2, c2, rfl⟩ : ∃ a c, rv = .slice a T.trans.length c := own_slice (hk.row 0 rfl)
    have K3 := Lib.hid hk
    clear hk K2
    rw [HM.out, HN.out] at K3
    obtain ⟨⟨x0, x1, x2⟩, s0', s1', s2'⟩ := row3 (K3.out.at 2 rfl)
    have z0 := K3.out.lt 2 rfl
    have hw : what % 5 = 0 ∨ what % 5 = 1 ∨ what % 5 = 2 ∨ what % 5 = 3 ∨ what % 5 = 4 := by omega
    rcases hw with e | e | e | e | e
    · have K4 := Lib.hid (K3.out.set 2 rfl 2 (.string (bs S ++ ⟨#[32]⟩)) rfl)
      have TB := Lib.hid (show TabV (wc.setCell ⟨V.heap.size, 2, none⟩ (.string (bs S ++ ⟨#[32]⟩))) (.slice a1 M c1) (.slice a2 N c2) (bs S ++ ⟨#[32]⟩) ⟨T.types, T.trans, S ++ [32]⟩ from ⟨LcV.own (K4.out.row 1 rfl) rfl, TrV.own (K4.out.row 0 rfl) rfl, Off.bs_add S [32], HF.out.lcs, HF.out.trs⟩)
      go_wp2_with fail
      refine (C2.out _ P0.out (by dsimp only; rw [HN.out]; omega) _ _ _ _ _ _ _ (HE.out.keep K4.out.below) TB.out (K4.out.at 0 rfl) (K4.out.at 1 rfl) (K4.out.at 2 rfl)).mono ?_
      rintro _ V5 ⟨rfl, hb⟩
      have K5 := Lib.hid (K4.out.keep hb)
      clear hb
      go_wp2_with fail
      refine (CW.out _ (HE.out.keep K5.out.below)).mono ?_
      rintro _ V6 ⟨rfl, hb⟩
      have K6 := Lib.hid (K5.out.keep hb)
      clear hb
      go_wp2_with fail
      go_ret
      exact ⟨rfl, K6.out.below⟩
    · have K4 := Lib.hid (K3.out.set 2 rfl 0 (.slice none 0 0) rfl)
      have TB := Lib.hid (show TabV (wc.setCell ⟨V.heap.size, 0, none⟩ (.slice none 0 0)) (.slice none 0 0) (.slice a2 N c2) (bs S) ⟨[], T.trans, S⟩ from ⟨LcV.nil _, TrV.own (K4.out.row 0 rfl) rfl, rfl, (fun _ h => by cases h), HF.out.trs⟩)
      go_wp2_with fail
      refine (C2.out _ P1.out (by dsimp only; rw [HN.out]; omega) _ _ _ _ _ _ _ (HE.out.keep K4.out.below) TB.out (K4.out.at 0 rfl) (K4.out.at 1 rfl) (K4.out.at 2 rfl)).mono ?_
      rintro _ V5 ⟨rfl, hb⟩
      have K5 := Lib.hid (K4.out.keep hb)
      clear hb
      go_wp2_with fail
      refine (CW.out _ (HE.out.keep K5.out.below)).mono ?_
      rintro _ V6 ⟨rfl, hb⟩
      have K6 := Lib.hid (K5.out.keep hb)
      clear hb
      go_wp2_with fail
      go_ret
      exact ⟨rfl, K6.out.below⟩
    · obtain ⟨j0, hj, hy0, hy1, hy2⟩ := info_parts infoTr
      have KA := Lib.hid (K3.out.alloc (.cells #[.int .i64 (-36028797018963968), .int .i64 0] 59))
      by_cases hN0 : N = 0
      · subst hN0
        have hnil : T.trans = [] := List.length_eq_zero_iff.1 HN.out
        have HNil := Lib.hid hnil
        clear hnil
        go_wp2_with (first
          | (at_builtin; refine wpList_append_own_at _ rfl (.tmp 58) (.tmp 60) 23 rfl W.heap.size 59 j0 (.agg #[.int .i64 0, .int .i64 0]) 2 16 Tryz.underlying23 hj hy0 hy1 hy2 rfl (by decide) _ T.trans.length _ rfl (KA.out.row 0 rfl) ⟨wc.heap.size, 0, none⟩ 1 1 [.int .i64 (-36028797018963968), .int .i64 0] rfl rfl ?c1 ?c2 ?c3 ?c4 ?c5 ?_; (case c1 => exact World.news_of_block (KA.out.at 0 rfl)); (case c2 => simp [Value.oneCell']); (case c3 => unfold maxLen; have := HN.out; omega); (case c4 => have := HN.out; omega); (case c5 => exact KA.out.below.size); intro v' w1 hown hgrow _ hat; have hk1 := (KA.out.append hown hgrow hat).drop; obtain ⟨g, cap, cur, hv, hk2, h1, h2, h3, h4⟩ := hk1.known_of (by omega); have h3 : cur.size = cap * 2 := h3; rw [HN.out] at hv h1 h4; subst hv; have KB := Lib.hid hk2; obtain ⟨⟨x0, x1, x2⟩, s0', s1', s2'⟩ := row3 (KB.out.at 3 rfl); have z0 := KB.out.lt 3 rfl; have fg := free_at (KB.out.at 0 rfl) 1; have zg := KB.out.lt 0 rfl; have ne1 := KB.out.known.other (j := 0) (k := 3) rfl rfl (by decide); have ne2 := Ne.symm ne1; have cg : w1.cell? ⟨g, 1, none⟩ = some (cur.getD 1 undef) := (cells_at (KB.out.at 0 rfl) 1).trans (by have h9 : 1 < cur.size := (by omega); simp [Array.getD, h9]); have H2 := Lib.hid h2; have H4 := Lib.hid (And.intro h3 h4); clear hown hgrow hat hk1 hk2 h2 h3 h4))
        have KC := Lib.hid (((KB.out.set 3 rfl 1 (.slice (some ⟨g, 0, none⟩) (0 + 1) cap) rfl).set 0 rfl 1 (.int .i64 1) rfl).own_block 2 (0 + 1) cap h1 H2.out (by simp [H4.out.1]))
        have hxs : (cur.setIfInBounds 1 (.int .i64 1)).toList.take ((0 + 1) * 2) = [(⟨-36028797018963968, 1⟩ : Tr)].flatMap Tr.cells := by
          rw [take_upd, H4.out.2, HNil.out]
          rfl
        have TB := Lib.hid (show TabV _ (.slice a1 M c1) (.slice (some ⟨g, 0, none⟩) (0 + 1) cap) (bs S) ⟨T.types, [⟨-36028797018963968, 1⟩], S⟩ from ⟨LcV.own (KC.out.row 1 rfl) rfl, TrV.own (B := W.heap.size) (e := 59) (n := 0 + 1) (by rw [← hxs]; exact KC.out.row 0 rfl) rfl, rfl, HF.out.lcs, fun x hx => by rw [List.mem_singleton.1 hx]; exact ⟨by kernel_rfl, by kernel_rfl⟩⟩)
        refine (C2.out _ (P3.out HNil.out) (by simp) _ _ _ _ _ _ _ (HE.out.keep KC.out.below) TB.out (KC.out.at 0 rfl) (KC.out.at 1 rfl) (KC.out.at 2 rfl)).mono ?_
        rintro _ V5 ⟨rfl, hb⟩
        have K5 := Lib.hid (KC.out.keep hb)
        clear hb
        go_wp2_with fail
        refine (CW.out _ (HE.out.keep K5.out.below)).mono ?_
        rintro _ V6 ⟨rfl, hb⟩
        have K6 := Lib.hid (K5.out.keep hb)
        clear hb
        go_wp2_with fail
        go_ret
        exact ⟨rfl, K6.out.below⟩
      · have hN1' : ¬ (N : Int) + 1 = 1 := by omega
        have hN2' : ¬ N + 1 = 1 := by omega
        go_wp2_with (first
          | (at_builtin; refine wpList_append_own_at _ rfl (.tmp 58) (.tmp 60) 23 rfl W.heap.size 59 j0 (.agg #[.int .i64 0, .int .i64 0]) 2 16 Tryz.underlying23 hj hy0 hy1 hy2 rfl (by decide) _ T.trans.length _ rfl (KA.out.row 0 rfl) ⟨wc.heap.size, 0, none⟩ 1 1 [.int .i64 (-36028797018963968), .int .i64 0] rfl rfl ?c1 ?c2 ?c3 ?c4 ?c5 ?_; (case c1 => exact World.news_of_block (KA.out.at 0 rfl)); (case c2 => simp [Value.oneCell']); (case c3 => unfold maxLen; have := HN.out; omega); (case c4 => have := HN.out; omega); (case c5 => exact KA.out.below.size); intro v' w1 hown hgrow _ hat; have hk1 := (KA.out.append hown hgrow hat).drop; obtain ⟨a3, c3, rfl⟩ : ∃ a c, v' = .slice a (T.trans.length + 1) c := own_slice hown; have KB := Lib.hid hk1; obtain ⟨⟨x0, x1, x2⟩, s0', s1', s2'⟩ := row3 (KB.out.at 2 rfl); have z0 := KB.out.lt 2 rfl; rw [HN.out] at KB ⊢; clear hown hgrow hat hk1))
        have KC := Lib.hid (KB.out.set 2 rfl 1 (.slice a3 (N + 1) c3) rfl)
        have TB := Lib.hid (show TabV _ (.slice a1 M c1) (.slice a3 (N + 1) c3) (bs S) ⟨T.types, T.trans ++ [⟨-36028797018963968, 0⟩], S⟩ from ⟨LcV.own (KC.out.row 1 rfl) rfl, TrV.own (B := W.heap.size) (e := 59) (n := N + 1) (by rw [trs_snoc]; exact KC.out.row 0 rfl) (by rw [List.length_append, HN.out]; rfl), rfl, HF.out.lcs, fun x hx => by
          rcases List.mem_append.1 hx with hx | hx
          · exact HF.out.trs x hx
          · rw [List.mem_singleton.1 hx]
            exact ⟨by kernel_rfl, by kernel_rfl⟩⟩)
        refine (C2.out _ (P2.out (fun h => hN0 (by rw [← HN.out, h]; rfl)) 0) (by dsimp only; rw [List.length_append, HN.out, List.length_singleton]; omega) _ _ _ _ _ _ _ (HE.out.keep KC.out.below) TB.out (KC.out.at 0 rfl) (KC.out.at 1 rfl) (KC.out.at 2 rfl)).mono ?_
        rintro _ V5 ⟨rfl, hb⟩
        have K5 := Lib.hid (KC.out.keep hb)
        clear hb
        go_wp2_with fail
        refine (CW.out _ (HE.out.keep K5.out.below)).mono ?_
        rintro _ V6 ⟨rfl, hb⟩
        have K6 := Lib.hid (K5.out.keep hb)
        clear hb
        go_wp2_with fail
        go_ret
        exact ⟨rfl, K6.out.below⟩
    · obtain ⟨g, cap, cur, hv, hk2, h1, h2, h3, h4⟩ := K3.out.swap.known_of (by have := HM.out; omega)
      simp only [Value.slice.injEq] at hv
      obtain ⟨rfl, -, rfl⟩ := hv
      rw [HM.out] at h1 h4
      obtain ⟨l, r, hlr⟩ : ∃ l r, T.types = l :: r := by
        cases hh : T.types with
        | nil => have := HM.out; rw [hh] at this; simp at this; omega
        | cons l r => exact ⟨l, r, rfl⟩
      have KB := Lib.hid hk2
      have H2 := Lib.hid h2
      have H4 := Lib.hid (And.intro h3 h4)
      have HLR := Lib.hid hlr
      have fg := free_at (KB.out.at 0 rfl) 2
      have zg := KB.out.lt 0 rfl
      have cg : wc.cell? ⟨g, 2, none⟩ = some (cur.getD 2 undef) := (cells_at (KB.out.at 0 rfl) 2).trans (by have h9 : 2 < cur.size := (by omega); simp [Array.getD, h9])
      have hM2 : (0 : Int) < (M : Int) := by omega
      clear hk2 h2 h3 h4 hlr
      go_wp2_with fail
      have KC := Lib.hid ((KB.out.set 0 rfl 2 (.string ⟨#[65]⟩) rfl).own_block 3 M c1 h1 H2.out (by simp [H4.out.1]))
      have hxs : (cur.setIfInBounds 2 (.string ⟨#[65]⟩)).toList.take (M * 3) = ((⟨l.off, l.dst, bs [65]⟩ : Lc) :: r).flatMap Lc.cells := by
        rw [take_upd, H4.out.2, HLR.out]
        rfl
      have TB := Lib.hid (show TabV _ (.slice (some ⟨g, 0, none⟩) M c1) (.slice a2 N c2) (bs S) ⟨⟨l.off, l.dst, bs [65]⟩ :: r, T.trans, S⟩ from ⟨LcV.own (B := W.heap.size) (e := 28) (n := M) (by rw [← hxs]; exact KC.out.row 0 rfl) (by rw [← HM.out, HLR.out]; rfl), TrV.own (KC.out.row 1 rfl) rfl, rfl, fun x hx => by
        have hf := HF.out.lcs
        rw [HLR.out] at hf
        rcases List.mem_cons.1 hx with rfl | hx
        · exact ⟨(hf l (List.mem_cons_self ..)).1, of_decide_eq_true (by kernel_rfl)⟩
        · exact hf x (List.mem_cons_of_mem _ hx), HF.out.trs⟩)
      refine (C2.out _ (P4.out l r) (by dsimp only; rw [HN.out]; omega) _ _ _ _ _ _ _ (HE.out.keep KC.out.below) TB.out (KC.out.at 0 rfl) (KC.out.at 1 rfl) (KC.out.at 2 rfl)).mono ?_
      rintro _ V5 ⟨rfl, hb⟩
      have K5 := Lib.hid (KC.out.keep hb)
      clear hb
      go_wp2_with fail
      refine (CW.out _ (HE.out.keep K5.out.below)).mono ?_
      rintro _ V6 ⟨rfl, hb⟩
      have K6 := Lib.hid (K5.out.keep hb)
      clear hb
      go_wp2_with fail
      go_ret
      exact ⟨rfl, K6.out.below⟩
    · obtain ⟨j0, hj, hy0, hy1, hy2⟩ := info_parts infoLc
      have KA := Lib.hid (K3.out.swap.alloc (.cells #[.int .i64 0, .bool false, .string ⟨#[78, 79, 78, 69]⟩] 28))
      go_wp2_with (first
        | (at_builtin; refine wpList_append_own_at _ rfl (.tmp 41) (.tmp 43) 22 rfl W.heap.size 28 j0 (.agg #[.int .i64 0, .bool false, .string ⟨#[]⟩]) 3 32 Tryz.underlying22 hj hy0 hy1 hy2 rfl (by decide) _ T.types.length _ rfl (KA.out.row 0 rfl) ⟨wc.heap.size, 0, none⟩ 1 1 [.int .i64 0, .bool false, .string ⟨#[78, 79, 78, 69]⟩] rfl rfl ?c1 ?c2 ?c3 ?c4 ?c5 ?_; (case c1 => exact World.news_of_block (KA.out.at 0 rfl)); (case c2 => simp [Value.oneCell']); (case c3 => unfold maxLen; have := HM.out; omega); (case c4 => have := HM.out; omega); (case c5 => exact KA.out.below.size); intro v' w1 hown hgrow _ hat; have hk1 := (KA.out.append hown hgrow hat).drop; obtain ⟨a3, c3, rfl⟩ : ∃ a c, v' = .slice a (T.types.length + 1) c := own_slice hown; have KB := Lib.hid hk1; obtain ⟨⟨x0, x1, x2⟩, s0', s1', s2'⟩ := row3 (KB.out.at 2 rfl); have z0 := KB.out.lt 2 rfl; rw [HM.out] at KB ⊢; clear hown hgrow hat hk1))
      have KC := Lib.hid (KB.out.set 2 rfl 0 (.slice a3 (M + 1) c3) rfl)
      have TB := Lib.hid (show TabV _ (.slice a3 (M + 1) c3) (.slice a2 N c2) (bs S) ⟨T.types ++ [⟨0, false, bs [78, 79, 78, 69]⟩], T.trans, S⟩ from ⟨LcV.own (B := W.heap.size) (e := 28) (n := M + 1) (by rw [lcs_snoc]; exact KC.out.row 0 rfl) (by rw [List.length_append, HM.out]; rfl), TrV.own (KC.out.row 1 rfl) rfl, rfl, fun x hx => by
        rcases List.mem_append.1 hx with hx | hx
        · exact HF.out.lcs x hx
        · rw [List.mem_singleton.1 hx]
          exact ⟨by kernel_rfl, of_decide_eq_true (by kernel_rfl)⟩, HF.out.trs⟩)
      refine (C2.out _ (P5.out ⟨0, false, bs [78, 79, 78, 69]⟩) (by dsimp only; rw [HN.out]; omega) _ _ _ _ _ _ _ (HE.out.keep KC.out.below) TB.out (KC.out.at 0 rfl) (KC.out.at 1 rfl) (KC.out.at 2 rfl)).mono ?_
      rintro _ V5 ⟨rfl, hb⟩
      have K5 := Lib.hid (KC.out.keep hb)
      clear hb
      go_wp2_with fail
      refine (CW.out _ (HE.out.keep K5.out.below)).mono ?_
      rintro _ V6 ⟨rfl, hb⟩
      have K6 := Lib.hid (K5.out.keep hb)
      clear hb
      go_wp2_with fail
      go_ret
      exact ⟨rfl, K6.out.below⟩
end Go.Proofs.YtlaplgaccjmbhaaGreatDoor.Px

