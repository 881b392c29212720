/- The law TableRight: the walk. The law TableRight returns true for every table by numbers, and its tied card holds; no condition beyond the row itself. -/
import Derived.Test.YtlaplgaccjmbhaaGreatDoorSG28
import Derived.Test.YtlaplgaccjmbhaaGreatDoorSG30
import Derived.Deep.QuietTactic
import Derived.BigQuiet
import Derived.Test.YtlaplgaccjmbhaaGreatDoorSG25
import Derived.Test.YtlaplgaccjmbhaaGreatDoorSG13
import Derived.Test.YtlaplgaccjmbhaaGreatDoorSG14
namespace Go.Proofs.YtlaplgaccjmbhaaGreatDoor.Px
open Go.RowKit
open Civ Tb
theorem chR_two (v w : Value) (g : List (Int × Lc)) (c : Int × Lc) : chR v w (g ++ [c] ++ [c]) = [⟨v, 2, 1, g.length + 2, g.map (fun x => Value.int .i64 x.1) ++ [.int .i64 c.1, .int .i64 c.1]⟩, ⟨w, 28, 3, g.length + 2, (g.map Prod.snd).flatMap Lc.cells ++ [.int .i64 c.2.off, .bool c.2.dst, .string c.2.abbr, .int .i64 c.2.off, .bool c.2.dst, .string c.2.abbr]⟩] := by
  simp [chR, Lc.cells]
def lcs (l : Lc) : Array Value := #[.int .i64 l.off, .bool l.dst, .string l.abbr]
set_option maxHeartbeats 16000000 in
set_option maxRecDepth 100000 in
theorem tableRight_cells (TY ST NX : List Int) (be fo ba : Int) (tv sv nv : Value) (W : World) (h : D40V W tv sv nv ⟨TY, ST, NX, be, fo, ba⟩) (hin : D40.In ⟨TY, ST, NX, be, fo, ba⟩) (hE : EnvAt W) :
    Calls Tryz.prog 10 #[.agg #[tv, sv, nv, .int .i32 be, .int .u8 fo, .int .u8 ba]] W fun e w' => e = .returned (.bool true) ∧ Below W.heap.size W w' := by
  have CM := Lib.hid (fun w h => made40_any TY ST NX be fo ba tv sv nv w h hin)
  have CW := Lib.hid (fun w hE => works40_any w hE)
  obtain ⟨ta, tc, htv, _, _⟩ := h.types.slice
  obtain ⟨sa, sc, hsv, _, _⟩ := h.steps.slice
  obtain ⟨na, nc, hnv, _, _⟩ := h.next.slice
  obtain ⟨TN, hTN⟩ : ∃ n, TY.length = n := ⟨_, rfl⟩
  obtain ⟨SN, hSN⟩ : ∃ n, ST.length = n := ⟨_, rfl⟩
  obtain ⟨NN, hNN⟩ : ∃ n, NX.length = n := ⟨_, rfl⟩
  dsimp only at htv hsv hnv
  rw [hTN] at htv
  rw [hSN] at hsv
  rw [hNN] at hnv
  subst htv hsv hnv
  obtain ⟨DD, hD⟩ : ∃ D, (⟨TY, ST, NX, be, fo, ba⟩ : D40) = D := ⟨_, rfl⟩
  rw [hD] at CM h hin
  have hr := made_right DD hin
  have hN41 := made_trans_len DD hin
  obtain ⟨X, hX⟩ : ∃ X, DD.made = X := ⟨_, rfl⟩
  rw [hX] at CM hr hN41
  have hty := typesE_zero (check_zero hr).1
  obtain ⟨S, hS⟩ : ∃ S, X.foot = S := ⟨_, rfl⟩
  obtain ⟨M, hM⟩ : ∃ n, X.types.length = n := ⟨_, rfl⟩
  obtain ⟨N, hN⟩ : ∃ n, X.trans.length = n := ⟨_, rfl⟩
  have hM0 : 0 < M ∧ M ≤ 254 := by rw [← hM]; exact ⟨List.length_pos_iff.2 hty.1, hty.2.1⟩
  obtain ⟨hM0, hM1⟩ := hM0
  rw [hN] at hN41
  have CC := Lib.hid (fun tv rv w h hE => tcheck_any X tv rv (bs X.foot) w h hE)
  rw [hr] at CC
  rw [hS] at CC CM
  have HR := Lib.hid hr
  have HS := Lib.hid hS
  have HM := Lib.hid hM
  have HN := Lib.hid hN
  have HH := Lib.hid h
  have HE := Lib.hid hE
  have hMi : (0 : Int) < (M : Int) := by omega
  have hMne : ¬ (M : Int) = 0 := by omega
  have hMnn : ¬ M = 0 := by omega
  have hMb : ((M : Int) == 0) = false := by simp; omega
  obtain ⟨j0, hj, hy0, hy1, hy2⟩ := info_parts infoI64
  obtain ⟨i0, hi, hz0, hz1, hz2⟩ := info_parts infoLc
  have K0 := Lib.hid ((Kp.start W).alloc (.cells #[.slice ta TN tc, .slice sa SN sc, .slice na NN nc, .int .i32 be, .int .u8 fo, .int .u8 ba] 75))
  clear h hE hin hD hr hX hty hS hM hN hTN hSN hNN
  go_enter Tryz.func10, Tryz.ntmps10
  go_wp2_with fail
  refine (CM.out _ (HH.out.keep K0.out.below)).mono ?_
  rintro _ V ⟨tv, rv, rfl, hk, hf⟩
  have hk1 := K0.out.adopt hk
  obtain ⟨xa, xc, rfl⟩ : ∃ a c, tv = .slice a X.types.length c := own_slice (hk1.row 1 rfl)
  obtain ⟨ya, yc, rfl⟩ : ∃ a c, rv = .slice a X.trans.length c := own_slice (hk1.row 0 rfl)
  rw [HM.out, HN.out] at hk1 ⊢
  have K1 := Lib.hid (hk1.alloc (.cells #[.slice xa M xc, .slice ya N yc, .string (bs S)] 25))
  have HF := Lib.hid hf
  have HTV : Hid (∀ {L : List (Nat × Obj)} {R : List Rw} {Z : World}, Kp L (tabR (.slice xa M xc) (.slice ya N yc) X ++ R) W Z → TabV Z (.slice xa M xc) (.slice ya N yc) (bs S) X) := Lib.hid (by
    intro h
    rw [← HS.out]
    exact h.tab hf)
  clear hk hk1 hf
  obtain ⟨⟨x0, x1, x2⟩, _, _, _⟩ := row3 (K1.out.at 0 rfl)
  go_wp2_with fail
  refine (CC.out _ _ _ (HTV.out K1.out) (HE.out.keep K1.out.below)).mono ?_
  rintro _ V2 ⟨rfl, hb⟩
  have K2 := Lib.hid (K1.out.keep hb)
  clear hb x0 x1 x2
  obtain ⟨g, rfl, -, -, -, hg⟩ := own_some (K2.out.row 1 rfl) (show 0 < X.types.length by rw [HM.out]; omega)
  obtain ⟨⟨x0, x1, x2⟩, _, _, _⟩ := row3 (K2.out.at 0 rfl)
  obtain ⟨⟨bo, bd, bb⟩, hb0⟩ : ∃ l, X.types[0]? = some l := ⟨_, List.getElem?_eq_getElem (by rw [HM.out]; omega)⟩
  obtain ⟨d0, d1, d2⟩ := lc_cell (K2.out.row 1 rfl) hb0
  simp only [Nat.zero_mul, Nat.zero_add] at d0 d1 d2
  have hbef : bef X 0 = ⟨bo, bd, bb⟩ := by unfold bef; rw [if_pos rfl, List.getD_eq_getElem?_getD, hb0, Option.getD_some]
  have hgl := Lib.hid hg
  have K3 := Lib.hid (show Kp [(V2.heap.size, .cells (lcs (bef X 0)) 28 (0, 0)), (V.heap.size, .cells #[.slice (some ⟨g, 0, none⟩) M xc, .slice ya N yc, .string (bs S)] 25 (0, 0)), (W.heap.size, .cells #[.slice ta TN tc, .slice sa SN sc, .slice na NN nc, .int .i32 be, .int .u8 fo, .int .u8 ba] 75 (0, 0))] (chR (.slice none 0 0) (.slice none 0 0) (X.changes.take 0) ++ tabR (.slice (some ⟨g, 0, none⟩) M xc) (.slice ya N yc) X) W _ from by
    rw [hbef]
    exact ((K2.out.alloc (.cells #[.int .i64 bo, .bool bd, .string bb] 28)).fresh 28 3).fresh 2 1)
  have HB0 := Lib.hid hbef
  have HBt := Lib.hid hb0
  have gb := hgl.out
  have zx := K2.out.lt 0 rfl
  clear hbef hb0 hg
  go_wp2_with fail
  clear x0 x1 x2 d0 d1 d2 gb zx
  go_loopw [5, 6, 9, 42] (fun v5 v6 _ v42 wr => ∃ k : Nat, k ≤ N ∧ v42 = .int .i64 k ∧ Kp [(V2.heap.size, .cells (lcs (bef X k)) 28 (0, 0)), (V.heap.size, .cells #[.slice (some ⟨g, 0, none⟩) M xc, .slice ya N yc, .string (bs S)] 25 (0, 0)), (W.heap.size, .cells #[.slice ta TN tc, .slice sa SN sc, .slice na NN nc, .int .i32 be, .int .u8 fo, .int .u8 ba] 75 (0, 0))] (chR v5 v6 (X.changes.take k) ++ tabR (.slice (some ⟨g, 0, none⟩) M xc) (.slice ya N yc) X) W wr) (fun _ _ _ v42 _ => N - (intOf v42).toNat)
  case atStart => exact ⟨0, by omega, rfl, K3.out⟩
  case round =>
    obtain ⟨k, hkN, rfl, hK⟩ := hrel
    have HK := Lib.hid hK
    clear hK K3
    by_cases hlt : k < N
    · obtain ⟨⟨xt, xk⟩, hx⟩ : ∃ x, X.trans[k]? = some x := ⟨_, List.getElem?_eq_getElem (by rw [HN.out]; exact hlt)⟩
      have hrng := ty_rng HR.out hx
      dsimp only at hrng
      rw [HM.out] at hrng
      obtain ⟨r, rfl⟩ : ∃ r : Nat, xk = r := ⟨xk.toNat, by omega⟩
      obtain ⟨⟨lo, ld, la⟩, hy⟩ : ∃ x, X.types[r]? = some x := ⟨_, List.getElem?_eq_getElem (by rw [HM.out]; omega)⟩
      have hgd : X.types.getD r Lc.zero = ⟨lo, ld, la⟩ := by rw [List.getD_eq_getElem?_getD, hy, Option.getD_some]
      have hne := bef_ne HR.out hx
      have hbs := bef_next hx
      have hct := changes_take hx
      dsimp only at hne hbs hct
      rw [Int.toNat_natCast, hgd] at hne hbs hct
      obtain ⟨⟨po, pd, pa⟩, hp⟩ : ∃ p, bef X k = p := ⟨_, rfl⟩
      rw [hp] at hne HK
      obtain ⟨rg, hrg, -, -, -, hrgl⟩ := own_some (HK.out.row 2 rfl) (show 0 < X.trans.length by rw [HN.out]; omega)
      obtain rfl : ya = some ⟨rg, 0, none⟩ := hrg
      obtain ⟨c0, c1⟩ := tr_cell (HK.out.row 2 rfl) hx
      obtain ⟨d0, d1, d2⟩ := lc_cell (HK.out.row 3 rfl) hy
      dsimp only at c0 c1 d0 d1 d2
      obtain ⟨⟨b0, b1, b2⟩, s0, s1, s2⟩ := row3 (show wr.heap[V2.heap.size]? = some (.cells #[.int .i64 po, .bool pd, .string pa] 28 (0, 0)) from HK.out.at 0 rfl)
      obtain ⟨⟨x0, x1, x2⟩, _, _, _⟩ := row3 (HK.out.at 1 rfl)
      have zb := HK.out.lt 0 rfl
      have zx := HK.out.lt 1 rfl
      have zg := ((HK.out.row 3 rfl).lt g rfl).2
      have j1 : (k : Int) < (N : Int) := by omega
      have j2 : (r : Int) < (M : Int) := by omega
      have j3 : ¬ (r : Int) < 0 := by omega
      have j4 : ¬ (M : Int) ≤ (r : Int) := by omega
      have j5 : ¬ M ≤ r := by omega
      have HX := Lib.hid hx
      have HY := Lib.hid hy
      have HNe := Lib.hid hne
      have HBs := Lib.hid hbs
      have HCt := Lib.hid hct
      clear hx hrng hy hgd hne hbs hct hp
      have hq : ∀ Z : World, (if lo = po then (if ld = pd then (if la.toList = pa.toList then Result.ok (Next.value (Value.bool true)) Z else Result.ok (Next.value (Value.bool false)) Z) else Result.ok (Next.value (Value.bool false)) Z) else Result.ok (Next.value (Value.bool false)) Z) = Result.ok (Next.value (Value.bool false)) Z := by
        intro Z
        by_cases q1 : lo = po
        · rw [if_pos q1]
          by_cases q2 : ld = pd
          · rw [if_pos q2]
            by_cases q3 : la.toList = pa.toList
            · refine absurd ?_ HNe.out
              rw [ByteArray.toList_eq, ByteArray.toList_eq] at q3
              rw [q1, q2, ByteArray.ext (Array.ext' q3)]
            · rw [if_neg q3]
          · rw [if_neg q2]
        · rw [if_neg q1]
      obtain ⟨gg, hgg⟩ : ∃ g, X.changes.take k = g := ⟨_, rfl⟩
      rw [hgg] at HK HCt
      have hgl' : gg.length ≤ 41 := by rw [← hgg, List.length_take]; omega
      have KA := Lib.hid (HK.out.alloc (.cells #[.int .i64 xt, .int .i64 (r : Int)] 59))
      have HQ := Lib.hid hq
      clear hgg
      go_upto_region 10 with fail
      go_cut [66] (fun v66 wx => v66 = .bool false ∧ Kp [(wr.heap.size, .cells #[.int .i64 xt, .int .i64 (r : Int)] 59 (0, 0)), (V2.heap.size, .cells (lcs ⟨po, pd, pa⟩) 28 (0, 0)), (V.heap.size, .cells #[.slice (some ⟨g, 0, none⟩) M xc, .slice (some ⟨rg, 0, none⟩) N yc, .string (bs S)] 25 (0, 0)), (W.heap.size, .cells #[.slice ta TN tc, .slice sa SN sc, .slice na NN nc, .int .i32 be, .int .u8 fo, .int .u8 ba] 75 (0, 0))] (chR u5 u6 gg ++ tabR (.slice (some ⟨g, 0, none⟩) M xc) (.slice (some ⟨rg, 0, none⟩) N yc) X) W wx)
      case first =>
        go_quiet (fail)
        go_wp2_with fail
        go_meet
        exact ⟨rfl, KA.out.call (Civ.below_drewN (Below.refl _ _) _) rfl rfl rfl rfl⟩
      case rest =>
        obtain ⟨rfl, hk⟩ := hcut
        have HK2 := Lib.hid hk
        clear hk KA HK hq HQ c0 c1 d0 d1 d2 b0 b1 b2 s0 s1 s2 x0 x1 x2 zb zx zg
        obtain ⟨d0, d1, d2⟩ := lc_cell (HK2.out.row 3 rfl) HY.out
        dsimp only at d0 d1 d2
        obtain ⟨c0, c1⟩ := row2 (HK2.out.at 0 rfl)
        obtain ⟨⟨b0, b1, b2⟩, s0, s1, s2⟩ := row3 (show wc.heap[V2.heap.size]? = some (.cells #[.int .i64 po, .bool pd, .string pa] 28 (0, 0)) from HK2.out.at 1 rfl)
        obtain ⟨⟨x0, x1, x2⟩, _, _, _⟩ := row3 (HK2.out.at 2 rfl)
        have zb := HK2.out.lt 1 rfl
        have zx := HK2.out.lt 2 rfl
        have zt := HK2.out.lt 0 rfl
        have zg := ((HK2.out.row 3 rfl).lt g rfl).2
        have KB := Lib.hid (show Kp [(wr.heap.size, .cells #[.int .i64 xt, .int .i64 (r : Int)] 59 (0, 0)), (V2.heap.size, .cells #[.int .i64 lo, .bool ld, .string la] 28 (0, 0)), (V.heap.size, .cells #[.slice (some ⟨g, 0, none⟩) M xc, .slice (some ⟨rg, 0, none⟩) N yc, .string (bs S)] 25 (0, 0)), (W.heap.size, .cells #[.slice ta TN tc, .slice sa SN sc, .slice na NN nc, .int .i32 be, .int .u8 fo, .int .u8 ba] 75 (0, 0))] (chR u5 u6 gg ++ tabR (.slice (some ⟨g, 0, none⟩) M xc) (.slice (some ⟨rg, 0, none⟩) N yc) X) W _ from ((HK2.out.set 1 rfl 0 (.int .i64 lo) rfl).set 1 rfl 1 (.bool ld) rfl).set 1 rfl 2 (.string la) rfl)
        go_upto_region 13 with fail
        clear c0 c1 d0 d1 d2 b0 b1 b2 s0 s1 s2 x0 x1 x2 zb zx zt zg HK2
        refine wp_region_kps W _ (tabR (.slice (some ⟨g, 0, none⟩) M xc) (.slice (some ⟨rg, 0, none⟩) N yc) X) [⟨4, 77, ⟨u5, 2, 1, gg.length, gg.map (fun x => Value.int .i64 x.1)⟩, gg.length + 1, gg.map (fun x => Value.int .i64 x.1) ++ [.int .i64 xt]⟩, ⟨8, 81, ⟨u6, 28, 3, gg.length, (gg.map Prod.snd).flatMap Lc.cells⟩, gg.length + 1, (gg.map Prod.snd).flatMap Lc.cells ++ [.int .i64 lo, .bool ld, .string la]⟩] [(5, 77), (6, 81)] (by kernel_rfl) (kkS [(73, .eq u5), (74, .eq (.pointer (some ⟨wr.heap.size, 0, none⟩))), (75, .eq (.int .i64 xt)), (76, .blk 1 #[.int .i64 xt] 2), (78, .eq u6), (79, .eq (.agg #[.int .i64 lo, .bool ld, .string la])), (80, .blk 1 #[.int .i64 lo, .bool ld, .string la] 28), (5, .cp), (6, .cp)]) (by kernel_rfl) ?hat (of_decide_eq_true (by kernel_rfl)) (by kernel_rfl) (kkS_mono _) KB.out ?steps ?hend
        case hat =>
          intro j hj
          simp only [List.mem_cons, List.not_mem_nil, or_false] at hj
          rcases hj with rfl | rfl
          · exact ⟨_, rfl, rfl⟩
          · exact ⟨_, rfl, rfl⟩
        case steps =>
          refine stepsK_n 73 rfl (by kernel_rfl) ?_ ?_
          · intro TT D w lq R hk hF K hK0
            have hK := Lib.hid hK0
            have q : TT[5]?.getD undef = u5 := hF.later 9 _ 5 rfl rfl (by kernel_rfl)
            have hk := Lib.hid hk
            clear hK0 hF
            go_simp
            exact hK.out _ _ _ hk.out (fun _ hp => hp) rfl
          refine stepsK_n 74 rfl (by kernel_rfl) ?_ ?_
          · intro TT D w lq R hk hF K hK0
            have hK := Lib.hid hK0
            have q : TT[9]?.getD undef = .pointer (some ⟨wr.heap.size, 0, none⟩) := hF.old 9 (by kernel_rfl)
            have hk := Lib.hid hk
            clear hK0 hF
            go_simp
            exact hK.out _ _ _ hk.out (fun _ hp => hp) rfl
          refine stepsK_n 75 rfl (by kernel_rfl) ?_ ?_
          · intro TT D w lq R hk hF K hK0
            have hK := Lib.hid hK0
            have q : TT[74]?.getD undef = .pointer (some ⟨wr.heap.size, 0, none⟩) := hF.on 1 (by kernel_rfl) (by kernel_rfl) rfl rfl
            have c : _ := row2 (hk.atM (hF.sub _ (List.mem_cons_self ..)))
            obtain ⟨c0, c1⟩ := c
            have hk := Lib.hid hk
            clear hK0 hF
            go_simp
            exact hK.out _ _ _ hk.out (fun _ hp => hp) rfl
          refine stepsK_n 76 rfl (by kernel_rfl) ?_ ?_
          · intro TT D w lq R hk hF K hK0
            have hK := Lib.hid hK0
            have q : TT[75]?.getD undef = .int .i64 xt := hF.on 2 (by kernel_rfl) (by kernel_rfl) rfl rfl
            have hk := Lib.hid hk
            clear hK0 hF
            go_simp
            exact hK.out _ _ _ (hk.out.alloc _) (fun _ hp => List.mem_cons_of_mem _ hp) ⟨_, rfl, List.mem_cons_self ..⟩
          refine stepsK_j _ rfl ?_ ?_
          · intro TT D w lq R hk hF K hK0
            have hK := Lib.hid hK0
            have q1 : TT[73]?.getD undef = u5 := hF.on 0 (by kernel_rfl) (by kernel_rfl) rfl rfl
            obtain ⟨bb, q2, hbm⟩ := (show KK.S (.blk 1 #[.int .i64 xt] 2) lq (TT[76]?.getD undef) none from hF.on 3 (by kernel_rfl) (by kernel_rfl) rfl rfl)
            exact job_append rfl (.tmp 73) (.tmp 76) 42 rfl hk j0 (.int .i64 0) 8 Tryz.underlying42 hj hy0 hy1 hy2 rfl (by decide) (eval_tmp q1) hbm 1 1 (eval_tmp q2) rfl (by simp [Value.oneCell']) (by omega) (by omega) (by omega) (fun v' w' hk' => hK.out v' w' hk')
          refine stepsK_n 78 rfl (by kernel_rfl) ?_ ?_
          · intro TT D w lq R hk hF K hK0
            have hK := Lib.hid hK0
            have q : TT[6]?.getD undef = u6 := hF.later 10 _ 6 rfl rfl (by kernel_rfl)
            have hk := Lib.hid hk
            clear hK0 hF
            go_simp
            exact hK.out _ _ _ hk.out (fun _ hp => hp) rfl
          refine stepsK_n 79 rfl (by kernel_rfl) ?_ ?_
          · intro TT D w lq R hk hF K hK0
            have hK := Lib.hid hK0
            have q : TT[7]?.getD undef = .pointer (some ⟨V2.heap.size, 0, none⟩) := hF.old 7 (by kernel_rfl)
            have c : _ := (row3 (hk.atM (hF.sub _ (List.mem_cons_of_mem _ (List.mem_cons_self ..))))).1
            obtain ⟨c0, c1, c2⟩ := c
            have hk := Lib.hid hk
            clear hK0 hF
            go_simp
            exact hK.out _ _ _ hk.out (fun _ hp => hp) rfl
          refine stepsK_n 80 rfl (by kernel_rfl) ?_ ?_
          · intro TT D w lq R hk hF K hK0
            have hK := Lib.hid hK0
            have q : TT[79]?.getD undef = .agg #[.int .i64 lo, .bool ld, .string la] := hF.on 6 (by kernel_rfl) (by kernel_rfl) rfl rfl
            have hk := Lib.hid hk
            clear hK0 hF
            go_simp
            exact hK.out _ _ _ (hk.out.alloc _) (fun _ hp => List.mem_cons_of_mem _ hp) ⟨_, rfl, List.mem_cons_self ..⟩
          refine stepsK_j _ rfl ?_ ?_
          · intro TT D w lq R hk hF K hK0
            have hK := Lib.hid hK0
            have q1 : TT[78]?.getD undef = u6 := hF.on 5 (by kernel_rfl) (by kernel_rfl) rfl rfl
            obtain ⟨bb, q2, hbm⟩ := (show KK.S (.blk 1 #[.int .i64 lo, .bool ld, .string la] 28) lq (TT[80]?.getD undef) none from hF.on 7 (by kernel_rfl) (by kernel_rfl) rfl rfl)
            exact job_append rfl (.tmp 78) (.tmp 80) 22 rfl hk i0 (.agg #[.int .i64 0, .bool false, .string ⟨#[]⟩]) 32 Tryz.underlying22 hi hz0 hz1 hz2 rfl (by decide) (eval_tmp q1) hbm 1 1 (eval_tmp q2) rfl (by simp [Value.oneCell']) (by omega) (by omega) (by omega) (fun v' w' hk' => hK.out v' w' hk')
          refine stepsK_n 5 rfl (by kernel_rfl) ?_ ?_
          · intro TT D w lq R hk hF K hK0
            have hK := Lib.hid hK0
            clear hK0
            go_simp
            exact hK.out _ _ _ hk (fun _ hp => hp) rfl
          refine stepsK_n 6 rfl (by kernel_rfl) ?_ ?_
          · intro TT D w lq R hk hF K hK0
            have hK := Lib.hid hK0
            clear hK0
            go_simp
            exact hK.out _ _ _ hk (fun _ hp => hp) rfl
          exact stepsK_nil
        case hend =>
          intro TT w lq hsz hk hsub hold hS
          obtain ⟨G, hG⟩ : ∃ G : Nat → Value, ∀ t, TT[t]?.getD undef = G t := ⟨_, fun _ => rfl⟩
          have c5 : G 5 = G 77 := by
            have := (show some (TT[77]?.getD undef) = some (TT[5]?.getD undef) from hS 9 _ 5 rfl rfl (by kernel_rfl))
            rw [hG, hG] at this
            exact (Option.some.inj this).symm
          have c6 : G 6 = G 81 := by
            have := (show some (TT[81]?.getD undef) = some (TT[6]?.getD undef) from hS 10 _ 6 rfl rfl (by kernel_rfl))
            rw [hG, hG] at this
            exact (Option.some.inj this).symm
          have hk2 := hk
          simp only [List.map_cons, List.map_nil, Job.row, hG, List.cons_append, List.nil_append] at hk2
          have KN := Lib.hid (hk2.sub KB.out hsub)
          have e' := tmps_mix [73, 74, 75, 76, 77, 78, 79, 80, 81, 5, 6] (by kernel_rfl) hsz hold
          simp only [List.foldl_cons, List.foldl_nil, hG, List.setIfInBounds_toArray, List.set_cons_zero, List.set_cons_succ] at e'
          rw [e', c5, c6]
          clear e' c5 c6 hold hS hG hsz hk hk2 hsub
          go_wp2_with fail
          go_roundw
          case rel => exact ⟨k + 1, by omega, by go_num, by rw [HBs.out, HCt.out, chR_snoc]; exact KN.out.drop⟩
          case measure => simp [intOf]; omega
    · obtain rfl : k = N := by omega
      have hck : X.changes.take k = X.changes := List.take_of_length_le (by rw [changes_len, HN.out]; exact Nat.le_refl _)
      rw [hck] at HK
      have hself := ofT_self HR.out
      have htw := ofT_twice HR.out
      rw [HS.out, List.getD_eq_getElem?_getD, HBt.out, Option.getD_some] at hself htw
      have hcm := fun c hc => changes_mem (c := c) HR.out hc
      have hcl := changes_len X
      rw [HN.out] at hcl
      obtain ⟨gg, hgg⟩ : ∃ g, X.changes = g := ⟨_, rfl⟩
      rw [hgg] at HK hself htw hcm hcl
      have hfF : Lc.Fit ⟨bo, bd, bb⟩ := HF.out.lcs _ (List.mem_of_getElem? HBt.out)
      have hfl : ∀ c ∈ gg, Lc.Fit c.2 := fun c hc => HF.out.lcs _ (hcm c hc).2
      have hfa : ∀ c ∈ gg, (Lit.int .i64 c.1).wf = true := fun c hc => wf_64 (by have := (hcm c hc).1; omega)
      obtain ⟨pn, hpn⟩ : ∃ n, gg.length = n := ⟨_, rfl⟩
      obtain ⟨pa, pc, rfl⟩ : ∃ a c, u5 = .slice a gg.length c := own_slice (HK.out.row 0 rfl)
      obtain ⟨qa, qc, rfl⟩ : ∃ a c, u6 = .slice a gg.length c := own_slice (HK.out.row 1 rfl)
      rw [hpn] at HK ⊢
      have HPn := Lib.hid hpn
      have hpn41 : pn ≤ 41 := by omega
      have CO := Lib.hid (fun w h1 h2 h3 hE => of_any ⟨bo, bd, bb⟩ (gg.map Prod.fst) (gg.map Prod.snd) (.slice pa pn pc) (.slice qa pn qc) S w h1 h2 h3 hfF (fun x hx => by obtain ⟨c, hc, rfl⟩ := List.mem_map.1 hx; exact hfl c hc) (fun x hx => by obtain ⟨c, hc, rfl⟩ := List.mem_map.1 hx; exact hfa c hc) hE (by rw [List.length_map]; omega))
      rw [hself] at CO
      unfold Lc.val at CO
      dsimp only at CO
      rw [HS.out] at CO
      have HTw := Lib.hid htw
      have HFl := Lib.hid hfl
      have HFa := Lib.hid hfa
      have HFF := Lib.hid hfF
      have HTm := Lib.hid (fun (A : List Rw) => (show (⟨.slice (some ⟨g, 0, none⟩) M xc, 28, 3, X.types.length, X.types.flatMap Lc.cells⟩ : Rw) ∈ A ++ tabR (.slice (some ⟨g, 0, none⟩) M xc) (.slice ya k yc) X from List.mem_append_right A (show _ ∈ [_, _] from List.mem_cons_of_mem _ (List.mem_cons_self ..))))
      clear hck hself htw hcm hcl hgg hfF hfl hfa hpn
      obtain ⟨⟨x0, x1, x2⟩, _, _, _⟩ := row3 (HK.out.at 1 rfl)
      have KR := Lib.hid (fun (Y : World) (hB : Below wr.heap.size wr Y) => (show Y.cell? ⟨V.heap.size, 0, none⟩ = some (.slice (some ⟨g, 0, none⟩) M xc) ∧ Y.cell? ⟨V.heap.size, 2, none⟩ = some (.string (bs S)) ∧ Y.cell? ⟨g, 0, none⟩ = some (.int .i64 bo) ∧ Y.cell? ⟨g, 1, none⟩ = some (.bool bd) ∧ Y.cell? ⟨g, 2, none⟩ = some (.string bb) ∧ Below wr.heap.size wr Y from by
        have hq := lc_cell (show Y.ownsRow W.heap.size 28 3 (.slice (some ⟨g, 0, none⟩) M xc) X.types.length (X.types.flatMap Lc.cells) from (HK.out.keep hB).own ⟨.slice (some ⟨g, 0, none⟩) M xc, 28, 3, X.types.length, X.types.flatMap Lc.cells⟩ (HTm.out _)) HBt.out
        simp only [Nat.zero_mul, Nat.zero_add] at hq
        exact ⟨cells_at ((HK.out.keep hB).at 1 rfl) 0, cells_at ((HK.out.keep hB).at 1 rfl) 2, hq.1, hq.2.1, hq.2.2, hB⟩))
      have CO2 := Lib.hid (fun (Y : World) (A : List (Nat × Obj)) (K : Kp A (chR (.slice pa pn pc) (.slice qa pn qc) gg ++ (tabR (.slice (some ⟨g, 0, none⟩) M xc) (.slice ya k yc) X)) W Y) => CO.out Y (chR_at (K.less (List.sublist_append_left _ _))).1 (chR_at (K.less (List.sublist_append_left _ _))).2.1 (chR_at (K.less (List.sublist_append_left _ _))).2.2 (HE.out.keep K.below))
      go_upto_region 15 with fail
      clear x0 x1 x2
      go_cut [10, 11] (fun vp ve wx => ve = .int .i64 0 ∧ ∃ bz az cz dz ez, vp = .pointer (some ⟨bz, 0, none⟩) ∧ Kp ((bz, .cells #[.slice az X.types.length cz, .slice dz X.trans.length ez, .string (bs S)] 25 (0, 0)) :: [(V2.heap.size, .cells (lcs (bef X k)) 28 (0, 0)), (V.heap.size, .cells #[.slice (some ⟨g, 0, none⟩) M xc, .slice ya k yc, .string (bs S)] 25 (0, 0)), (W.heap.size, .cells #[.slice ta TN tc, .slice sa SN sc, .slice na NN nc, .int .i32 be, .int .u8 fo, .int .u8 ba] 75 (0, 0))]) (tabR (.slice az X.types.length cz) (.slice dz X.trans.length ez) X ++ (chR (.slice pa pn pc) (.slice qa pn qc) gg ++ (tabR (.slice (some ⟨g, 0, none⟩) M xc) (.slice ya k yc) X))) W wx)
      case first =>
        go_region_held3 (fun w' => w'.cell? ⟨V.heap.size, 0, none⟩ = some (.slice (some ⟨g, 0, none⟩) M xc) ∧ w'.cell? ⟨V.heap.size, 2, none⟩ = some (.string (bs S)) ∧ w'.cell? ⟨g, 0, none⟩ = some (.int .i64 bo) ∧ w'.cell? ⟨g, 1, none⟩ = some (.bool bd) ∧ w'.cell? ⟨g, 2, none⟩ = some (.string bb) ∧ Below wr.heap.size wr w')
          (first | with_reducible exact KR.out _ HX0.out | with_reducible exact KR.out _ (HX0.out.alloc HX0.out.size _) | with_reducible exact KR.out _ (bda _ _) | with_reducible exact KR.out _ (bdrew3 _) | with_reducible exact KR.out _ (((HX0.out.setCell (by simp) _).setCell (by simp) _).setCell (by simp) _))
          (first
            | (go_at_call 21; with_reducible refine (CO2.out _ _ HK.out.drew).mono ?_; rintro e X5 ⟨tv, rv, rfl, hk, hf⟩; have hk5 := HK.out.drew.adopt hk; have HX0 : Hid (Below wr.heap.size wr X5) := Lib.hid (below_over hk.below rfl rfl rfl rfl); obtain ⟨a5, c5, rfl⟩ : ∃ a c, tv = .slice a X.types.length c := own_slice (hk5.row 1 rfl); obtain ⟨d5, e5, rfl⟩ : ∃ a c, rv = .slice a X.trans.length c := own_slice (hk5.row 0 rfl); have KA5 := Lib.hid (hk5.alloc (.cells #[.slice a5 X.types.length c5, .slice d5 X.trans.length e5, .string (bs S)] 25)); clear hk hk5 hf)
            | (go_at_call 21; with_reducible refine (CO2.out _ _ ((HK.out.allocAt wr.heap.size rfl (.cells #[.slice none 0 0, .slice none 0 0, .string ⟨#[]⟩] 25)).drew)).mono ?_; rintro e X5 ⟨tv, rv, rfl, hk, hf⟩; have hk5 := (HK.out.allocAt wr.heap.size rfl (.cells #[.slice none 0 0, .slice none 0 0, .string ⟨#[]⟩] 25)).drew.adopt hk; have HX0 : Hid (Below wr.heap.size wr X5) := Lib.hid ((bda wr _).trans (hk.below.mono (by simp))); obtain ⟨a5, c5, rfl⟩ : ∃ a c, tv = .slice a X.types.length c := own_slice (hk5.row 1 rfl); obtain ⟨d5, e5, rfl⟩ : ∃ a c, rv = .slice a X.trans.length c := own_slice (hk5.row 0 rfl); obtain ⟨⟨y0, y1, y2⟩, s0, s1, s2⟩ := row3 (hk5.at 0 rfl); have zz := hk5.lt 0 rfl; have KB5 := Lib.hid (((hk5.set 0 rfl 0 (.slice a5 X.types.length c5) rfl).set 0 rfl 1 (.slice d5 X.trans.length e5) rfl).set 0 rfl 2 (.string (bs S)) rfl); clear hk hk5 hf))
        all_goals
          go_wp2_with fail
          go_meet
          first
            | exact ⟨rfl, _, a5, c5, d5, e5, rfl, KA5.out⟩
            | exact ⟨rfl, _, a5, c5, d5, e5, rfl, KB5.out⟩
      case rest =>
        obtain ⟨rfl, b, ua, uc, va, vc, rfl, hk⟩ := hcut
        have T2 := Lib.hid (show Kp [(b, .cells #[.slice ua X.types.length uc, .slice va X.trans.length vc, .string (bs S)] 25 (0, 0)), (V2.heap.size, .cells (lcs (bef X k)) 28 (0, 0)), (V.heap.size, .cells #[.slice (some ⟨g, 0, none⟩) M xc, .slice ya k yc, .string (bs S)] 25 (0, 0)), (W.heap.size, .cells #[.slice ta TN tc, .slice sa SN sc, .slice na NN nc, .int .i32 be, .int .u8 fo, .int .u8 ba] 75 (0, 0))] (chR (.slice none 0 0) (.slice none 0 0) (twice (gg.take 0)) ++ (tabR (.slice ua X.types.length uc) (.slice va X.trans.length vc) X ++ (chR (.slice pa pn pc) (.slice qa pn qc) gg ++ (tabR (.slice (some ⟨g, 0, none⟩) M xc) (.slice ya k yc) X)))) W wc from (hk.fresh 28 3).fresh 2 1)
        clear hk HK KR CO2 CO
        go_wp2_with fail
        go_loopw [12, 13, 14, 97] (fun v12 v13 _ v97 ws => ∃ q : Nat, q ≤ pn ∧ v97 = .int .i64 q ∧ Kp [(b, .cells #[.slice ua X.types.length uc, .slice va X.trans.length vc, .string (bs S)] 25 (0, 0)), (V2.heap.size, .cells (lcs (bef X k)) 28 (0, 0)), (V.heap.size, .cells #[.slice (some ⟨g, 0, none⟩) M xc, .slice ya k yc, .string (bs S)] 25 (0, 0)), (W.heap.size, .cells #[.slice ta TN tc, .slice sa SN sc, .slice na NN nc, .int .i32 be, .int .u8 fo, .int .u8 ba] 75 (0, 0))] (chR v12 v13 (twice (gg.take q)) ++ (tabR (.slice ua X.types.length uc) (.slice va X.trans.length vc) X ++ (chR (.slice pa pn pc) (.slice qa pn qc) gg ++ (tabR (.slice (some ⟨g, 0, none⟩) M xc) (.slice ya k yc) X)))) W ws) (fun _ _ _ v97 _ => pn - (intOf v97).toNat)
        case atStart => exact ⟨0, by omega, rfl, T2.out⟩
        case round =>
          obtain ⟨q, hq1, rfl, hK⟩ := hrel
          have HK3 := Lib.hid hK
          clear hK T2
          by_cases hlt : q < pn
          · obtain ⟨⟨ct, lo, ld, la⟩, hc⟩ : ∃ c, gg[q]? = some c := ⟨_, List.getElem?_eq_getElem (by rw [HPn.out]; exact hlt)⟩
            obtain ⟨ag, hag, -, -, -, hagl⟩ := own_some (HK3.out.row 4 rfl) (show 0 < gg.length by rw [HPn.out]; omega)
            obtain ⟨lg, hlg, -, -, -, hlgl⟩ := own_some (HK3.out.row 5 rfl) (show 0 < gg.length by rw [HPn.out]; omega)
            obtain rfl : pa = some ⟨ag, 0, none⟩ := hag
            obtain rfl : qa = some ⟨lg, 0, none⟩ := hlg
            have hca : (gg.map (fun x => Value.int .i64 x.1))[q]? = some (.int .i64 ct) := by rw [List.getElem?_map, hc]; rfl
            have hcl : (gg.map Prod.snd)[q]? = some ⟨lo, ld, la⟩ := by rw [List.getElem?_map, hc]; rfl
            have hct : twice (gg.take (q + 1)) = twice (gg.take q) ++ [(ct, ⟨lo, ld, la⟩)] ++ [(ct, ⟨lo, ld, la⟩)] := by rw [List.take_add_one, hc]; exact twice_snoc _ _
            obtain ⟨tw, htw⟩ : ∃ l, twice (gg.take q) = l := ⟨_, rfl⟩
            have htl : tw.length ≤ 82 := by rw [← htw, twice_len, List.length_take]; omega
            rw [htw] at HK3 hct
            have HCa := Lib.hid hca
            have HCl := Lib.hid hcl
            have HCt2 := Lib.hid hct
            have HAt := Lib.hid (fun (A : List Rw) => (show (⟨.slice (some ⟨ag, 0, none⟩) pn pc, 2, 1, gg.length, gg.map (fun x => Value.int .i64 x.1)⟩ : Rw) ∈ A ++ (tabR (.slice ua X.types.length uc) (.slice va X.trans.length vc) X ++ (chR (.slice (some ⟨ag, 0, none⟩) pn pc) (.slice (some ⟨lg, 0, none⟩) pn qc) gg ++ (tabR (.slice (some ⟨g, 0, none⟩) M xc) (.slice ya k yc) X))) from List.mem_append_right A (List.mem_append_right _ (List.mem_append_left _ (show _ ∈ [_, _] from List.mem_cons_self ..)))))
            have HLt := Lib.hid (fun (A : List Rw) => (show (⟨.slice (some ⟨lg, 0, none⟩) pn qc, 28, 3, gg.length, (gg.map Prod.snd).flatMap Lc.cells⟩ : Rw) ∈ A ++ (tabR (.slice ua X.types.length uc) (.slice va X.trans.length vc) X ++ (chR (.slice (some ⟨ag, 0, none⟩) pn pc) (.slice (some ⟨lg, 0, none⟩) pn qc) gg ++ (tabR (.slice (some ⟨g, 0, none⟩) M xc) (.slice ya k yc) X))) from List.mem_append_right A (List.mem_append_right _ (List.mem_append_left _ (show _ ∈ [_, _] from List.mem_cons_of_mem _ (List.mem_cons_self ..))))))
            have j1 : (q : Int) < (pn : Int) := by omega
            clear hc hca hcl hct htw hagl hlgl
            go_upto_region 21 with fail
            refine wp_region_kps W _ (tabR (.slice ua X.types.length uc) (.slice va X.trans.length vc) X ++ (chR (.slice (some ⟨ag, 0, none⟩) pn pc) (.slice (some ⟨lg, 0, none⟩) pn qc) gg ++ (tabR (.slice (some ⟨g, 0, none⟩) M xc) (.slice ya k yc) X))) [⟨10, 110, ⟨u12, 2, 1, tw.length, tw.map (fun x => Value.int .i64 x.1)⟩, tw.length + 2, tw.map (fun x => Value.int .i64 x.1) ++ [.int .i64 ct, .int .i64 ct]⟩, ⟨21, 121, ⟨u13, 28, 3, tw.length, (tw.map Prod.snd).flatMap Lc.cells⟩, tw.length + 2, (tw.map Prod.snd).flatMap Lc.cells ++ [.int .i64 lo, .bool ld, .string la, .int .i64 lo, .bool ld, .string la]⟩] [(12, 110), (13, 121)] (by kernel_rfl) (kkS [(100, .eq u12), (101, .eq (.slice (some ⟨ag, 0, none⟩) pn pc)), (102, .eq (.int .i64 (q : Int))), (103, .eq (.pointer (some ⟨ag, q, none⟩))), (104, .eq (.int .i64 ct)), (105, .eq (.slice (some ⟨ag, 0, none⟩) pn pc)), (106, .eq (.int .i64 (q : Int))), (107, .eq (.pointer (some ⟨ag, q, none⟩))), (108, .eq (.int .i64 ct)), (109, .blk 2 #[.int .i64 ct, .int .i64 ct] 2), (111, .eq u13), (112, .eq (.slice (some ⟨lg, 0, none⟩) pn qc)), (113, .eq (.int .i64 (q : Int))), (114, .eq (.pointer (some ⟨lg, q * 3, none⟩))), (115, .eq (.agg #[.int .i64 lo, .bool ld, .string la])), (116, .eq (.slice (some ⟨lg, 0, none⟩) pn qc)), (117, .eq (.int .i64 (q : Int))), (118, .eq (.pointer (some ⟨lg, q * 3, none⟩))), (119, .eq (.agg #[.int .i64 lo, .bool ld, .string la])), (120, .blk 2 #[.int .i64 lo, .bool ld, .string la, .int .i64 lo, .bool ld, .string la] 28), (12, .cp), (13, .cp)]) (by kernel_rfl) ?hat (of_decide_eq_true (by kernel_rfl)) (by kernel_rfl) (kkS_mono _) HK3.out ?steps ?hend
            case hat =>
              intro j hj
              simp only [List.mem_cons, List.not_mem_nil, or_false] at hj
              rcases hj with rfl | rfl
              · exact ⟨_, rfl, rfl⟩
              · exact ⟨_, rfl, rfl⟩
            case steps =>
              refine stepsK_n 100 rfl (by kernel_rfl) ?_ ?_
              · intro TT D w lq R hk hF K hK0
                have hK := Lib.hid hK0
                have p1 : TT[12]?.getD undef = u12 := hF.later 22 _ 12 rfl rfl (by kernel_rfl)
                have hk := Lib.hid hk
                clear hK0 hF
                go_simp
                exact hK.out _ _ _ hk.out (fun _ hp => hp) rfl
              refine stepsK_n 101 rfl (by kernel_rfl) ?_ ?_
              · intro TT D w lq R hk hF K hK0
                have hK := Lib.hid hK0
                have p1 : TT[5]?.getD undef = (.slice (some ⟨ag, 0, none⟩) pn pc) := hF.old 5 (by kernel_rfl)
                have hk := Lib.hid hk
                clear hK0 hF
                go_simp
                exact hK.out _ _ _ hk.out (fun _ hp => hp) rfl
              refine stepsK_n 102 rfl (by kernel_rfl) ?_ ?_
              · intro TT D w lq R hk hF K hK0
                have hK := Lib.hid hK0
                have p1 : TT[14]?.getD undef = .int .i64 (q : Int) := hF.old 14 (by kernel_rfl)
                have hk := Lib.hid hk
                clear hK0 hF
                go_simp
                exact hK.out _ _ _ hk.out (fun _ hp => hp) rfl
              refine stepsK_n 103 rfl (by kernel_rfl) ?_ ?_
              · intro TT D w lq R hk hF K hK0
                have hK := Lib.hid hK0
                have p1 : TT[101]?.getD undef = (.slice (some ⟨ag, 0, none⟩) pn pc) := hF.on 1 (by kernel_rfl) (by kernel_rfl) rfl rfl
                have p2 : TT[102]?.getD undef = .int .i64 (q : Int) := hF.on 2 (by kernel_rfl) (by kernel_rfl) rfl rfl
                have hk := Lib.hid hk
                clear hK0 hF
                go_simp
                exact hK.out _ _ _ hk.out (fun _ hp => hp) rfl
              refine stepsK_n 104 rfl (by kernel_rfl) ?_ ?_
              · intro TT D w lq R hk hF K hK0
                have hK := Lib.hid hK0
                have p1 : TT[103]?.getD undef = .pointer (some ⟨ag, q, none⟩) := hF.on 3 (by kernel_rfl) (by kernel_rfl) rfl rfl
                have c0 : _ := own_cell (hk.own _ (HAt.out _)) HCa.out
                have hk := Lib.hid hk
                clear hK0 hF
                go_simp
                exact hK.out _ _ _ hk.out (fun _ hp => hp) rfl
              refine stepsK_n 105 rfl (by kernel_rfl) ?_ ?_
              · intro TT D w lq R hk hF K hK0
                have hK := Lib.hid hK0
                have p1 : TT[5]?.getD undef = (.slice (some ⟨ag, 0, none⟩) pn pc) := hF.old 5 (by kernel_rfl)
                have hk := Lib.hid hk
                clear hK0 hF
                go_simp
                exact hK.out _ _ _ hk.out (fun _ hp => hp) rfl
              refine stepsK_n 106 rfl (by kernel_rfl) ?_ ?_
              · intro TT D w lq R hk hF K hK0
                have hK := Lib.hid hK0
                have p1 : TT[14]?.getD undef = .int .i64 (q : Int) := hF.old 14 (by kernel_rfl)
                have hk := Lib.hid hk
                clear hK0 hF
                go_simp
                exact hK.out _ _ _ hk.out (fun _ hp => hp) rfl
              refine stepsK_n 107 rfl (by kernel_rfl) ?_ ?_
              · intro TT D w lq R hk hF K hK0
                have hK := Lib.hid hK0
                have p1 : TT[105]?.getD undef = (.slice (some ⟨ag, 0, none⟩) pn pc) := hF.on 5 (by kernel_rfl) (by kernel_rfl) rfl rfl
                have p2 : TT[106]?.getD undef = .int .i64 (q : Int) := hF.on 6 (by kernel_rfl) (by kernel_rfl) rfl rfl
                have hk := Lib.hid hk
                clear hK0 hF
                go_simp
                exact hK.out _ _ _ hk.out (fun _ hp => hp) rfl
              refine stepsK_n 108 rfl (by kernel_rfl) ?_ ?_
              · intro TT D w lq R hk hF K hK0
                have hK := Lib.hid hK0
                have p1 : TT[107]?.getD undef = .pointer (some ⟨ag, q, none⟩) := hF.on 7 (by kernel_rfl) (by kernel_rfl) rfl rfl
                have c0 : _ := own_cell (hk.own _ (HAt.out _)) HCa.out
                have hk := Lib.hid hk
                clear hK0 hF
                go_simp
                exact hK.out _ _ _ hk.out (fun _ hp => hp) rfl
              refine stepsK_n 109 rfl (by kernel_rfl) ?_ ?_
              · intro TT D w lq R hk hF K hK0
                have hK := Lib.hid hK0
                have p1 : TT[104]?.getD undef = .int .i64 ct := hF.on 4 (by kernel_rfl) (by kernel_rfl) rfl rfl
                have p2 : TT[108]?.getD undef = .int .i64 ct := hF.on 8 (by kernel_rfl) (by kernel_rfl) rfl rfl
                have hk := Lib.hid hk
                clear hK0 hF
                go_simp
                exact hK.out _ _ _ (hk.out.alloc _) (fun _ hp => List.mem_cons_of_mem _ hp) ⟨_, rfl, List.mem_cons_self ..⟩
              refine stepsK_j _ rfl ?_ ?_
              · intro TT D w lq R hk hF K hK0
                have hK := Lib.hid hK0
                have q1 : TT[100]?.getD undef = u12 := hF.on 0 (by kernel_rfl) (by kernel_rfl) rfl rfl
                obtain ⟨bb, q2, hbm⟩ := (show KK.S (.blk 2 #[.int .i64 ct, .int .i64 ct] 2) lq (TT[109]?.getD undef) none from hF.on 9 (by kernel_rfl) (by kernel_rfl) rfl rfl)
                exact job_append rfl (.tmp 100) (.tmp 109) 42 rfl hk j0 (.int .i64 0) 8 Tryz.underlying42 hj hy0 hy1 hy2 rfl (by decide) (eval_tmp q1) hbm 2 2 (eval_tmp q2) rfl (by simp [Value.oneCell']) (by omega) (by omega) (by omega) (fun v' w' hk' => hK.out v' w' hk')
              refine stepsK_n 111 rfl (by kernel_rfl) ?_ ?_
              · intro TT D w lq R hk hF K hK0
                have hK := Lib.hid hK0
                have p1 : TT[13]?.getD undef = u13 := hF.later 23 _ 13 rfl rfl (by kernel_rfl)
                have hk := Lib.hid hk
                clear hK0 hF
                go_simp
                exact hK.out _ _ _ hk.out (fun _ hp => hp) rfl
              refine stepsK_n 112 rfl (by kernel_rfl) ?_ ?_
              · intro TT D w lq R hk hF K hK0
                have hK := Lib.hid hK0
                have p1 : TT[6]?.getD undef = (.slice (some ⟨lg, 0, none⟩) pn qc) := hF.old 6 (by kernel_rfl)
                have hk := Lib.hid hk
                clear hK0 hF
                go_simp
                exact hK.out _ _ _ hk.out (fun _ hp => hp) rfl
              refine stepsK_n 113 rfl (by kernel_rfl) ?_ ?_
              · intro TT D w lq R hk hF K hK0
                have hK := Lib.hid hK0
                have p1 : TT[14]?.getD undef = .int .i64 (q : Int) := hF.old 14 (by kernel_rfl)
                have hk := Lib.hid hk
                clear hK0 hF
                go_simp
                exact hK.out _ _ _ hk.out (fun _ hp => hp) rfl
              refine stepsK_n 114 rfl (by kernel_rfl) ?_ ?_
              · intro TT D w lq R hk hF K hK0
                have hK := Lib.hid hK0
                have p1 : TT[112]?.getD undef = (.slice (some ⟨lg, 0, none⟩) pn qc) := hF.on 12 (by kernel_rfl) (by kernel_rfl) rfl rfl
                have p2 : TT[113]?.getD undef = .int .i64 (q : Int) := hF.on 13 (by kernel_rfl) (by kernel_rfl) rfl rfl
                have hk := Lib.hid hk
                clear hK0 hF
                go_simp
                exact hK.out _ _ _ hk.out (fun _ hp => hp) rfl
              refine stepsK_n 115 rfl (by kernel_rfl) ?_ ?_
              · intro TT D w lq R hk hF K hK0
                have hK := Lib.hid hK0
                have p1 : TT[114]?.getD undef = .pointer (some ⟨lg, q * 3, none⟩) := hF.on 14 (by kernel_rfl) (by kernel_rfl) rfl rfl
                have c : _ := lc_cell (hk.own _ (HLt.out _)) HCl.out
                obtain ⟨c0, c1, c2⟩ := c
                dsimp only at c0 c1 c2
                have hk := Lib.hid hk
                clear hK0 hF
                go_simp
                exact hK.out _ _ _ hk.out (fun _ hp => hp) rfl
              refine stepsK_n 116 rfl (by kernel_rfl) ?_ ?_
              · intro TT D w lq R hk hF K hK0
                have hK := Lib.hid hK0
                have p1 : TT[6]?.getD undef = (.slice (some ⟨lg, 0, none⟩) pn qc) := hF.old 6 (by kernel_rfl)
                have hk := Lib.hid hk
                clear hK0 hF
                go_simp
                exact hK.out _ _ _ hk.out (fun _ hp => hp) rfl
              refine stepsK_n 117 rfl (by kernel_rfl) ?_ ?_
              · intro TT D w lq R hk hF K hK0
                have hK := Lib.hid hK0
                have p1 : TT[14]?.getD undef = .int .i64 (q : Int) := hF.old 14 (by kernel_rfl)
                have hk := Lib.hid hk
                clear hK0 hF
                go_simp
                exact hK.out _ _ _ hk.out (fun _ hp => hp) rfl
              refine stepsK_n 118 rfl (by kernel_rfl) ?_ ?_
              · intro TT D w lq R hk hF K hK0
                have hK := Lib.hid hK0
                have p1 : TT[116]?.getD undef = (.slice (some ⟨lg, 0, none⟩) pn qc) := hF.on 16 (by kernel_rfl) (by kernel_rfl) rfl rfl
                have p2 : TT[117]?.getD undef = .int .i64 (q : Int) := hF.on 17 (by kernel_rfl) (by kernel_rfl) rfl rfl
                have hk := Lib.hid hk
                clear hK0 hF
                go_simp
                exact hK.out _ _ _ hk.out (fun _ hp => hp) rfl
              refine stepsK_n 119 rfl (by kernel_rfl) ?_ ?_
              · intro TT D w lq R hk hF K hK0
                have hK := Lib.hid hK0
                have p1 : TT[118]?.getD undef = .pointer (some ⟨lg, q * 3, none⟩) := hF.on 18 (by kernel_rfl) (by kernel_rfl) rfl rfl
                have c : _ := lc_cell (hk.own _ (HLt.out _)) HCl.out
                obtain ⟨c0, c1, c2⟩ := c
                dsimp only at c0 c1 c2
                have hk := Lib.hid hk
                clear hK0 hF
                go_simp
                exact hK.out _ _ _ hk.out (fun _ hp => hp) rfl
              refine stepsK_n 120 rfl (by kernel_rfl) ?_ ?_
              · intro TT D w lq R hk hF K hK0
                have hK := Lib.hid hK0
                have p1 : TT[115]?.getD undef = .agg #[.int .i64 lo, .bool ld, .string la] := hF.on 15 (by kernel_rfl) (by kernel_rfl) rfl rfl
                have p2 : TT[119]?.getD undef = .agg #[.int .i64 lo, .bool ld, .string la] := hF.on 19 (by kernel_rfl) (by kernel_rfl) rfl rfl
                have hk := Lib.hid hk
                clear hK0 hF
                go_simp
                exact hK.out _ _ _ (hk.out.alloc _) (fun _ hp => List.mem_cons_of_mem _ hp) ⟨_, rfl, List.mem_cons_self ..⟩
              refine stepsK_j _ rfl ?_ ?_
              · intro TT D w lq R hk hF K hK0
                have hK := Lib.hid hK0
                have q1 : TT[111]?.getD undef = u13 := hF.on 11 (by kernel_rfl) (by kernel_rfl) rfl rfl
                obtain ⟨bb, q2, hbm⟩ := (show KK.S (.blk 2 #[.int .i64 lo, .bool ld, .string la, .int .i64 lo, .bool ld, .string la] 28) lq (TT[120]?.getD undef) none from hF.on 20 (by kernel_rfl) (by kernel_rfl) rfl rfl)
                exact job_append rfl (.tmp 111) (.tmp 120) 22 rfl hk i0 (.agg #[.int .i64 0, .bool false, .string ⟨#[]⟩]) 32 Tryz.underlying22 hi hz0 hz1 hz2 rfl (by decide) (eval_tmp q1) hbm 2 2 (eval_tmp q2) rfl (by simp [Value.oneCell']) (by omega) (by omega) (by omega) (fun v' w' hk' => hK.out v' w' hk')
              refine stepsK_n 12 rfl (by kernel_rfl) ?_ ?_
              · intro TT D w lq R hk hF K hK0
                have hK := Lib.hid hK0
                clear hK0
                go_simp
                exact hK.out _ _ _ hk (fun _ hp => hp) rfl
              refine stepsK_n 13 rfl (by kernel_rfl) ?_ ?_
              · intro TT D w lq R hk hF K hK0
                have hK := Lib.hid hK0
                clear hK0
                go_simp
                exact hK.out _ _ _ hk (fun _ hp => hp) rfl
              exact stepsK_nil
            case hend =>
              intro TT w lq hsz hk hsub hold hS
              obtain ⟨G, hG⟩ : ∃ G : Nat → Value, ∀ t, TT[t]?.getD undef = G t := ⟨_, fun _ => rfl⟩
              have c12 : G 12 = G 110 := by
                have := (show some (TT[110]?.getD undef) = some (TT[12]?.getD undef) from hS 22 _ 12 rfl rfl (by kernel_rfl))
                rw [hG, hG] at this
                exact (Option.some.inj this).symm
              have c13 : G 13 = G 121 := by
                have := (show some (TT[121]?.getD undef) = some (TT[13]?.getD undef) from hS 23 _ 13 rfl rfl (by kernel_rfl))
                rw [hG, hG] at this
                exact (Option.some.inj this).symm
              have hk2 := hk
              simp only [List.map_cons, List.map_nil, Job.row, hG, List.cons_append, List.nil_append] at hk2
              have KN := Lib.hid (hk2.sub HK3.out hsub)
              have e' := tmps_mix [100, 101, 102, 103, 104, 105, 106, 107, 108, 109, 110, 111, 112, 113, 114, 115, 116, 117, 118, 119, 120, 121, 12, 13] (by kernel_rfl) hsz hold
              simp only [List.foldl_cons, List.foldl_nil, hG, List.setIfInBounds_toArray, List.set_cons_zero, List.set_cons_succ] at e'
              rw [e', c12, c13]
              clear e' c12 c13 hold hS hG hsz hk hk2 hsub
              go_wp2_with fail
              go_roundw
              case rel => exact ⟨q + 1, by omega, by go_num, by rw [HCt2.out, chR_two]; exact KN.out⟩
              case measure => simp [intOf]; omega
          · obtain rfl : q = pn := by omega
            have hck : gg.take q = gg := List.take_of_length_le (by rw [HPn.out]; exact Nat.le_refl _)
            rw [hck] at HK3
            obtain ⟨mn, hmn⟩ : ∃ n, (twice gg).length = n := ⟨_, rfl⟩
            have hmn2 : mn = 2 * q := by rw [← hmn, twice_len, HPn.out]
            obtain ⟨ma, mc, rfl⟩ : ∃ a c, u12 = .slice a (twice gg).length c := own_slice (HK3.out.row 0 rfl)
            obtain ⟨ka, kc, rfl⟩ : ∃ a c, u13 = .slice a (twice gg).length c := own_slice (HK3.out.row 1 rfl)
            rw [hmn] at HK3 ⊢
            have CO := Lib.hid (fun w h1 h2 h3 hE => of_any ⟨bo, bd, bb⟩ ((twice gg).map Prod.fst) ((twice gg).map Prod.snd) (.slice ma mn mc) (.slice ka mn kc) S w h1 h2 h3 HFF.out (fun x hx => by obtain ⟨c, hc, rfl⟩ := List.mem_map.1 hx; exact HFl.out c (twice_mem hc)) (fun x hx => by obtain ⟨c, hc, rfl⟩ := List.mem_map.1 hx; exact HFa.out c (twice_mem hc)) hE (by rw [List.length_map, hmn]; omega))
            rw [HTw.out] at CO
            unfold Lc.val at CO
            dsimp only at CO
            rw [HS.out] at CO
            clear hck hmn hmn2
            obtain ⟨⟨x0, x1, x2⟩, _, _, _⟩ := row3 (HK3.out.at 2 rfl)
            have KR := Lib.hid (fun (Y : World) (hB : Below wr.heap.size wr Y) => (show Y.cell? ⟨V.heap.size, 0, none⟩ = some (.slice (some ⟨g, 0, none⟩) M xc) ∧ Y.cell? ⟨V.heap.size, 2, none⟩ = some (.string (bs S)) ∧ Y.cell? ⟨g, 0, none⟩ = some (.int .i64 bo) ∧ Y.cell? ⟨g, 1, none⟩ = some (.bool bd) ∧ Y.cell? ⟨g, 2, none⟩ = some (.string bb) ∧ Below wr.heap.size wr Y from by
              have hq := lc_cell (show Y.ownsRow W.heap.size 28 3 (.slice (some ⟨g, 0, none⟩) M xc) X.types.length (X.types.flatMap Lc.cells) from (HK3.out.keep hB).own ⟨.slice (some ⟨g, 0, none⟩) M xc, 28, 3, X.types.length, X.types.flatMap Lc.cells⟩ (List.mem_append_right _ (List.mem_append_right _ (HTm.out _)))) HBt.out
              simp only [Nat.zero_mul, Nat.zero_add] at hq
              exact ⟨cells_at ((HK3.out.keep hB).at 2 rfl) 0, cells_at ((HK3.out.keep hB).at 2 rfl) 2, hq.1, hq.2.1, hq.2.2, hB⟩))
            have CO2 := Lib.hid (fun (Y : World) (A : List (Nat × Obj)) (K : Kp A (chR (.slice ma mn mc) (.slice ka mn kc) (twice gg) ++ (tabR (.slice ua X.types.length uc) (.slice va X.trans.length vc) X ++ (chR (.slice pa q pc) (.slice qa q qc) gg ++ (tabR (.slice (some ⟨g, 0, none⟩) M xc) (.slice ya k yc) X)))) W Y) => CO.out Y (chR_at (K.less (List.sublist_append_left _ _))).1 (chR_at (K.less (List.sublist_append_left _ _))).2.1 (chR_at (K.less (List.sublist_append_left _ _))).2.2 (HE.out.keep K.below))
            go_upto_region 23 with fail
            clear x0 x1 x2
            go_cut [15, 16] (fun vp ve wx => ve = .int .i64 0 ∧ ∃ bz az cz dz ez, vp = .pointer (some ⟨bz, 0, none⟩) ∧ Kp ((bz, .cells #[.slice az X.types.length cz, .slice dz X.trans.length ez, .string (bs S)] 25 (0, 0)) :: [(b, .cells #[.slice ua X.types.length uc, .slice va X.trans.length vc, .string (bs S)] 25 (0, 0)), (V2.heap.size, .cells (lcs (bef X k)) 28 (0, 0)), (V.heap.size, .cells #[.slice (some ⟨g, 0, none⟩) M xc, .slice ya k yc, .string (bs S)] 25 (0, 0)), (W.heap.size, .cells #[.slice ta TN tc, .slice sa SN sc, .slice na NN nc, .int .i32 be, .int .u8 fo, .int .u8 ba] 75 (0, 0))]) (tabR (.slice az X.types.length cz) (.slice dz X.trans.length ez) X ++ (chR (.slice ma mn mc) (.slice ka mn kc) (twice gg) ++ (tabR (.slice ua X.types.length uc) (.slice va X.trans.length vc) X ++ (chR (.slice pa q pc) (.slice qa q qc) gg ++ (tabR (.slice (some ⟨g, 0, none⟩) M xc) (.slice ya k yc) X))))) W wx)
            case first =>
              go_region_held3 (fun w' => w'.cell? ⟨V.heap.size, 0, none⟩ = some (.slice (some ⟨g, 0, none⟩) M xc) ∧ w'.cell? ⟨V.heap.size, 2, none⟩ = some (.string (bs S)) ∧ w'.cell? ⟨g, 0, none⟩ = some (.int .i64 bo) ∧ w'.cell? ⟨g, 1, none⟩ = some (.bool bd) ∧ w'.cell? ⟨g, 2, none⟩ = some (.string bb) ∧ Below wr.heap.size wr w')
                (first | with_reducible exact KR.out _ HX0.out | with_reducible exact KR.out _ (HX0.out.alloc HX0.out.size _) | with_reducible exact KR.out _ (bda _ _) | with_reducible exact KR.out _ (bdrew3 _) | with_reducible exact KR.out _ (((HX0.out.setCell (by simp) _).setCell (by simp) _).setCell (by simp) _))
                (first
                  | (go_at_call 21; with_reducible refine (CO2.out _ _ HK3.out.drew).mono ?_; rintro e X5 ⟨tv, rv, rfl, hk, hf⟩; have hk5 := HK3.out.drew.adopt hk; have HX0 : Hid (Below wr.heap.size wr X5) := Lib.hid (below_over hk.below rfl rfl rfl rfl); obtain ⟨a5, c5, rfl⟩ : ∃ a c, tv = .slice a X.types.length c := own_slice (hk5.row 1 rfl); obtain ⟨d5, e5, rfl⟩ : ∃ a c, rv = .slice a X.trans.length c := own_slice (hk5.row 0 rfl); have KA5 := Lib.hid (hk5.alloc (.cells #[.slice a5 X.types.length c5, .slice d5 X.trans.length e5, .string (bs S)] 25)); clear hk hk5 hf)
                  | (go_at_call 21; with_reducible refine (CO2.out _ _ ((HK3.out.allocAt wr.heap.size rfl (.cells #[.slice none 0 0, .slice none 0 0, .string ⟨#[]⟩] 25)).drew)).mono ?_; rintro e X5 ⟨tv, rv, rfl, hk, hf⟩; have hk5 := (HK3.out.allocAt wr.heap.size rfl (.cells #[.slice none 0 0, .slice none 0 0, .string ⟨#[]⟩] 25)).drew.adopt hk; have HX0 : Hid (Below wr.heap.size wr X5) := Lib.hid ((bda wr _).trans (hk.below.mono (by simp))); obtain ⟨a5, c5, rfl⟩ : ∃ a c, tv = .slice a X.types.length c := own_slice (hk5.row 1 rfl); obtain ⟨d5, e5, rfl⟩ : ∃ a c, rv = .slice a X.trans.length c := own_slice (hk5.row 0 rfl); obtain ⟨⟨y0, y1, y2⟩, s0, s1, s2⟩ := row3 (hk5.at 0 rfl); have zz := hk5.lt 0 rfl; have KB5 := Lib.hid (((hk5.set 0 rfl 0 (.slice a5 X.types.length c5) rfl).set 0 rfl 1 (.slice d5 X.trans.length e5) rfl).set 0 rfl 2 (.string (bs S)) rfl); clear hk hk5 hf))
              all_goals
                go_wp2_with fail
                go_meet
                first
                  | exact ⟨rfl, _, a5, c5, d5, e5, rfl, KA5.out⟩
                  | exact ⟨rfl, _, a5, c5, d5, e5, rfl, KB5.out⟩
            case rest =>
              obtain ⟨rfl, b', ua', uc', va', vc', rfl, hk⟩ := hcut
              have KE := Lib.hid hk
              clear hk
              have CS := Lib.hid (fun tv rv tv' rv' w h h' => same_any X X tv rv tv' rv' (bs S) (bs S) w h h')
              rw [same_self X] at CS
              obtain ⟨⟨x0, x1, x2⟩, _, _, _⟩ := row3 (KE.out.at 3 rfl)
              obtain ⟨⟨y0, y1, y2⟩, _, _, _⟩ := row3 (KE.out.at 1 rfl)
              go_wp2_with fail
              refine (CS.out (.slice (some ⟨g, 0, none⟩) M xc) (.slice ya k yc) (.slice ua X.types.length uc) (.slice va X.trans.length vc) _ (tab_of HS.out HF.out (KE.out.row 8 rfl) (KE.out.row 9 rfl) rfl rfl) (tab_of HS.out HF.out (KE.out.row 4 rfl) (KE.out.row 5 rfl) rfl rfl)).mono ?_
              rintro _ V8 ⟨rfl, hb⟩
              have KF := Lib.hid (KE.out.keep hb)
              clear hb x0 x1 x2 y0 y1 y2
              obtain ⟨⟨x0, x1, x2⟩, _, _, _⟩ := row3 (KF.out.at 3 rfl)
              obtain ⟨⟨y0, y1, y2⟩, _, _, _⟩ := row3 (KF.out.at 0 rfl)
              go_wp2_with fail
              refine (CS.out (.slice (some ⟨g, 0, none⟩) M xc) (.slice ya k yc) (.slice ua' X.types.length uc') (.slice va' X.trans.length vc') _ (tab_of HS.out HF.out (KF.out.row 8 rfl) (KF.out.row 9 rfl) rfl rfl) (tab_of HS.out HF.out (KF.out.row 0 rfl) (KF.out.row 1 rfl) rfl rfl)).mono ?_
              rintro _ V9 ⟨rfl, hb⟩
              have KG := Lib.hid (KF.out.keep hb)
              clear hb x0 x1 x2 y0 y1 y2
              go_wp2_with fail
              refine (CW.out _ (HE.out.keep KG.out.below)).mono ?_
              rintro _ V10 ⟨rfl, hb⟩
              have KZ := Lib.hid (KG.out.keep hb)
              clear hb
              go_wp2_with fail
              go_ret
              exact ⟨rfl, KZ.out.below⟩
end Go.Proofs.YtlaplgaccjmbhaaGreatDoor.Px
namespace Go.Proofs.YtlaplgaccjmbhaaGreatDoor.Px
open Go.RowKit
open Civ Tb
theorem tableRight_walk (x : D40) (tv sv nv : Value) {W : World} (h : D40V W tv sv nv x) (hin : D40.In x) (hE : EnvAt W) :
    Calls Tryz.prog 10 #[d40val x tv sv nv] W fun e w' => e = .returned (.bool true) ∧ Below W.heap.size W w' := by
  obtain ⟨TY, ST, NX, be, fo, ba⟩ := x
  exact tableRight_cells TY ST NX be fo ba tv sv nv W h hin hE
end Go.Proofs.YtlaplgaccjmbhaaGreatDoor.Px
namespace Go.Proofs.YtlaplgaccjmbhaaGreatDoor
open Go.ChangeShapes Go.WideShapes Go.ChangeAt Go.RowKit
open Go.ChangeMaps (open_string)
namespace tableRight
theorem own : ownKnob Tryz.prog.godebug = none := by kernel_rfl
set_option maxRecDepth 100000 in
theorem lifted (os : Os) (started : os.Started) (H : Type) (enc : TypeId × Value → H) :
    ReturnsInHanded {} Tryz.checked os 10 .any (fun w args => (Rows.tableRightSpec.pre enc Tryz.prog Tryz.f10 Rows.tableRightRow.domain false w args ∧ laidMetH Tryz.prog Rows.tableRightRow.laid w) ∧ sizedMet enc Tryz.prog Tryz.f10 (OpenSpec.ofChange Rows.tableRightSpec) false w args)
      (Rows.tableRightSpec.post enc Tryz.prog Tryz.f10 false true false false) := by
  refine returnsInHanded_of_change_and (C := Tryz.checked) (X := fun w _ => laidMetH Tryz.prog Rows.tableRightRow.laid w) (fun _ _ _ hh h => h.of_heap hh) own started (by kernel_rfl) Tryz.func10
    (ChangeSpec.witness_shaped (enc := enc) (C := Tryz.checked) (os := os) (X := fun w _ => laidMetH Tryz.prog Rows.tableRightRow.laid w) false ((World.doorLaid Tryz.prog 4000 os).layVars Tryz.prog [("unicode/utf8.first", Rows.laid_unicode_utf8_first)]) #[.agg #[.slice none 0 0, .slice none 0 0, .slice none 0 0, .int .i32 0, .int .u8 0, .int .u8 0]] 8 (door_os os)
      (World.shaped_of_ZipB (by kernel_rfl) (by kernel_rfl)) (by kernel_rfl) (by kernel_rfl) (by kernel_rfl) (door_met os _)) ?_
  intro W base args ds gs before hval0 hW _ _ hL _
  have hval : ∀ (j : Nat) t v, Tryz.f10.params[j]? = some t → args[j]? = some v → Value.okWide Tryz.prog W .any base t v := hval0
  have hEnv : Px.EnvAt W := Px.env_of hL
  have hW' := hW
  obtain ⟨p, q, hA0, hV, rfl, _, _⟩ := hW
  have hA : DataW.TrodAll enc Tryz.prog W 0 (fun _ => true) true Tryz.f10.params.toList args.toList ds p := hA0
  rw [Tryz.params10] at hA hval
  obtain ⟨v0, vs0, d0, ds0, p0, q0, hargs, rfl, rfl, h0, r0⟩ := trodAll_cons hA
  obtain ⟨rfl, rfl, rfl⟩ := trodAll_nil r0
  obtain rfl : args = #[v0] := by cases args; simp_all
  obtain ⟨rfl, rfl⟩ := trodVars_none hV
  obtain ⟨x0, tv0, sv0, nv0, rfl, hx0, hd0⟩ := Px.open_d40 (hval 0 75 v0 rfl rfl) h0
  refine (Px.tableRight_walk x0 tv0 sv0 nv0 hx0 hd0 hEnv).mono fun e W' ⟨he, hB⟩ => ?_
  subst he
  refine ⟨_, rfl, post_law (by kernel_rfl) ?_ rfl hW' rfl rfl Tryz.underlying4 hB⟩
  rw [Tryz.params10]
  intro t ht
  have hall : ([75].all fun u => Tryz.prog.readableRec u && decide (u < Tryz.prog.types.size)) = true := by kernel_rfl
  have h1 := List.all_eq_true.1 hall t ht
  have h2 : Tryz.prog.readableRec t = true ∧ t < Tryz.prog.types.size := by simpa using h1
  exact h2
set_option maxHeartbeats 8000000 in
theorem facts : joinedFacts Tryz.pinned.checked.prog 10 Tryz.f10 Rows.tableRightSpec Rows.tableRightRow = true := by
  simp only [joinedFacts, Bool.and_eq_true]
  and_intros
  all_goals (as_aux_lemma => kernel_rfl)
theorem named : Tryz.pinned.checked.prog.funcNamed Rows.tableRightRow.func = some 10 := by kernel_rfl
theorem said : Rows.TableRightSaid :=
  OpenClaim.holds_of_wide 10 Tryz.f10 rfl rfl rfl rfl rfl rfl rfl ⟨rfl, rfl, rfl, rfl, rfl⟩ rfl rfl rfl rfl rfl named Tryz.func10 facts
    (of_decide_eq_true (by kernel_rfl)) (by unfold Func.isWrapper; first | (rw [if_pos (by decide +kernel)]; kernel_rfl) | (rw [if_neg (by decide +kernel)]; exact ⟨rfl, rfl⟩))
    (fun os started H enc _ => lifted os started H enc)
theorem plain (f : FuncId) (fn : Func) (hf : Tryz.pinned.checked.prog.funcNamed "analemma/analemmalaw40.TableRight" = some f) (hfn : Tryz.pinned.checked.prog.funcs[f]? = some fn) :
    true = Tryz.pinned.checked.prog.looks [] ∧ ∀ (j : Nat) t, fn.params[j]? = some t → Tryz.pinned.checked.prog.wantsStandIn t = false := by
  obtain rfl : f = 10 := Option.some.inj ((show Tryz.prog.funcNamed "analemma/analemmalaw40.TableRight" = some 10 by kernel_rfl).symm.trans hf) |>.symm
  obtain rfl : fn = Tryz.f10 := (Option.some.inj (Tryz.func10.symm.trans hfn)).symm
  refine ⟨by kernel_rfl, fun j t ht => ?_⟩
  rw [Tryz.params10] at ht
  have hm : t ∈ [75] := by simpa using Array.mem_of_getElem? ht
  have hall : ([75].all fun u => !Tryz.prog.wantsStandIn u) = true := by kernel_rfl
  exact (show Tryz.prog.wantsStandIn t = false by simpa using List.all_eq_true.1 hall t hm)
theorem card : Rows.TableRightCardSaid :=
  Claim7.holds_tied_plain_at .later [] _ _ _ _ said (fun _ h => by cases h) (by kernel_rfl) (fun _ h => by cases h) tableRight_row_tie rfl ⟨rfl, rfl⟩ (by kernel_rfl) rfl plain (by kernel_rfl)
end tableRight
#print axioms tableRight.card
end Go.Proofs.YtlaplgaccjmbhaaGreatDoor

