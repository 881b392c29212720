/- The law TzifVersions, its walk. The law TzifVersions returns true for every table by numbers and every number, and its tied card holds; no condition beyond the row itself. -/
import Derived.Test.YtkpmmabdpeobaaaGreatDoorSV6
import Derived.Test.YtkpmmabdpeobaaaGreatDoorSU13
import Derived.Test.YtkpmmabdpeobaaaGreatDoorSU14
import Derived.Test.YtkpmmabdpeobaaaGreatDoorSU41
import Derived.Test.YtkpmmabdpeobaaaGreatDoorSV5
import Derived.Test.YtkpmmabdpeobaaaGreatDoorSU27
namespace Go.Proofs.YtkpmmabdpeobaaaGreatDoor.Px
open Go.RowKit
open Tz Tb Civ
set_option maxHeartbeats 8000000 in
set_option maxRecDepth 100000 in
theorem tzifVersions_cells (TY ST NX : List Int) (be fo ba : Int) (tv sv nv : Value) (far : Int) (W : World) (h : D40V W tv sv nv ⟨TY, ST, NX, be, fo, ba⟩) (hin : D40.In ⟨TY, ST, NX, be, fo, ba⟩) (f0 : 0 ≤ far) (f1 : far ≤ 4294967295) (hE : Env42 W) :
 Calls Tryz.prog 4 #[.agg #[tv, sv, nv, .int .i32 be, .int .u8 fo, .int .u8 ba], .int .u32 far] W fun e w' => e = .returned (.bool true) ∧ Below W.heap.size W w' := by
 have CM0 := Lib.hid (fun w h => made40_any TY ST NX be fo ba tv sv nv w h hin)
 obtain ⟨da0, dc0, hdv, _, _⟩ := h.types.slice
 obtain ⟨sa0, sc0, hsv, _, _⟩ := h.steps.slice
 obtain ⟨na0, nc0, hnv, _, _⟩ := h.next.slice
 obtain ⟨DN0, hDN⟩ : ∃ n, TY.length = n := ⟨_, rfl⟩
 obtain ⟨SN0, hSN⟩ : ∃ n, ST.length = n := ⟨_, rfl⟩
 obtain ⟨NN0, hNN⟩ : ∃ n, NX.length = n := ⟨_, rfl⟩
 dsimp only at hdv hsv hnv
 rw [hDN] at hdv
 rw [hSN] at hsv
 rw [hNN] at hnv
 subst hdv hsv hnv
 have hr := made_right _ hin
 have hN41 := made_trans_len _ hin
 have hM11 := (made_sub _ hin).2
 obtain ⟨X, hX⟩ : ∃ X, D40.made ⟨TY, ST, NX, be, fo, ba⟩ = X := ⟨_, rfl⟩
 rw [hX] at CM0 hr hN41 hM11
 obtain ⟨Ss, hS⟩ : ∃ S, bs X.foot = S := ⟨_, rfl⟩
 obtain ⟨M, hM⟩ : ∃ n, X.types.length = n := ⟨_, rfl⟩
 obtain ⟨N, hN⟩ : ∃ n, X.trans.length = n := ⟨_, rfl⟩
 rw [hM] at hM11
 rw [hN] at hN41
 have HR0 := Lib.hid hr
 have HS0 := Lib.hid hS
 have HM0 := Lib.hid hM
 have HN0 := Lib.hid hN
 have hM11_0 := hM11
 have hN41_0 := hN41
 have HH0 := Lib.hid h
 clear h hin hX hr hS hM hN hDN hSN hNN hM11 hN41
 have HE := Lib.hid hE
 have CW := Lib.hid (fun w hE => works42_any w hE)
 have CE := Lib.hid (fun x tv rv f v w h hE hm => encode_any x tv rv f v w h hE hm)
 have CV := Lib.hid (fun tv rv w h hE => version_any X tv rv Ss w h hE)
 rw [versE_ok HR0.out] at CV
 dsimp only at CV
 have HVT := versT_two X
 have K0 := Lib.hid ((Kp.start W).alloc (.cells #[.slice da0 DN0 dc0, .slice sa0 SN0 sc0, .slice na0 NN0 nc0, .int .i32 be, .int .u8 fo, .int .u8 ba] 41))
 clear hE
 rcases HVT with hv | hv
 all_goals
  rw [hv] at CV
  go_enter Tryz.func4, Tryz.ntmps4
  go_wp2_with fail
  refine (CM0.out _ ⟨HH0.out.types.keep K0.out.below, HH0.out.steps.keep K0.out.below, HH0.out.next.keep K0.out.below⟩).mono ?_
  rintro _ V0 ⟨tv, rv, rfl, hk, hf⟩
  obtain ⟨xa0, xc0, rfl⟩ : ∃ a c, tv = .slice a X.types.length c := own_slice (hk.row 1 rfl)
  obtain ⟨ya0, yc0, rfl⟩ : ∃ a c, rv = .slice a X.trans.length c := own_slice (hk.row 0 rfl)
  have HF0 := Lib.hid hf
  have hk := K0.out.adopt hk
  rw [HM0.out, HN0.out] at hk ⊢
  rw [HS0.out]
  clear hf CM0 K0
  go_upto_region 2 with fail
  have hk := hk.alloc (.cells #[.slice xa0 M xc0, .slice ya0 N yc0, .string Ss] 25)
  obtain ⟨X1, hX⟩ : ∃ Z, V0.alloc (.cells #[.slice xa0 M xc0, .slice ya0 N yc0, .string Ss] 25) = Z := ⟨_, rfl⟩
  obtain ⟨q0, hq⟩ : ∃ Z, V0.heap.size = Z := ⟨_, rfl⟩
  rw [hX, hq] at hk ⊢
  have K1 := Lib.hid hk
  clear hk hX hq
  obtain ⟨⟨x0, x1, x2⟩, _, _, _⟩ := row3 (K1.out.at 0 rfl)
  go_wp2_with fail
  refine (CV.out _ _ _ (tab_rows (x := X) (K1.out.row 0 rfl) (K1.out.row 1 rfl) rfl rfl HF0.out HS0.out) (HE.out.keep K1.out.below).env).mono ?_
  rintro _ w2 ⟨rfl, hb⟩
  have K2 := Lib.hid (K1.out.keep hb)
  clear hb K1 CV x0 x1 x2
  obtain ⟨⟨x0, x1, x2⟩, _, _, _⟩ := row3 (K2.out.at 0 rfl)
 · skip
   go_wp2_with fail
   have C1 := CE.out X _ _ Ss 4 _ (tab_rows (x := X) (K2.out.row 0 rfl) (K2.out.row 1 rfl) rfl rfl HF0.out HS0.out) (HE.out.keep K2.out.below) (by rw [HN0.out]; omega)
   rw [encE_ok HR0.out (by omega)] at C1
   dsimp only at C1
   refine C1.mono ?_
   rintro _ w3 ⟨ov, rfl, hk⟩
   obtain ⟨e3, f3, rfl⟩ := bRow_slice (hk.row 0 rfl)
   have K3 := Lib.hid (K2.out.adopt hk)
   clear hk C1 K2 x0 x1 x2
   obtain ⟨⟨x0, x1, x2⟩, _, _, _⟩ := row3 (K3.out.at 0 rfl)
   go_wp2_with fail
   have C1 := CE.out X _ _ Ss 3 _ (tab_rows (x := X) (K3.out.row 1 rfl) (K3.out.row 2 rfl) rfl rfl HF0.out HS0.out) (HE.out.keep K3.out.below) (by rw [HN0.out]; omega)
   rw [encE_ok HR0.out (by omega)] at C1
   dsimp only at C1
   refine C1.mono ?_
   rintro _ w4 ⟨ov, rfl, hk⟩
   obtain ⟨e4, f4, rfl⟩ := bRow_slice (hk.row 0 rfl)
   have K4 := Lib.hid (K3.out.adopt hk)
   clear hk C1 K3 x0 x1 x2
   obtain ⟨⟨x0, x1, x2⟩, _, _, _⟩ := row3 (K4.out.at 0 rfl)
   go_wp2_with fail
   have C1 := CE.out X _ _ Ss 2 _ (tab_rows (x := X) (K4.out.row 2 rfl) (K4.out.row 3 rfl) rfl rfl HF0.out HS0.out) (HE.out.keep K4.out.below) (by rw [HN0.out]; omega)
   rw [encE_ok HR0.out (by omega)] at C1
   dsimp only at C1
   refine C1.mono ?_
   rintro _ w5 ⟨ov, rfl, hk⟩
   obtain ⟨e5, f5, rfl⟩ := bRow_slice (hk.row 0 rfl)
   have K5 := Lib.hid (K4.out.adopt hk)
   clear hk C1 K4 x0 x1 x2
   obtain ⟨⟨x0, x1, x2⟩, _, _, _⟩ := row3 (K5.out.at 0 rfl)
   have n4 := enc_len X 4
   have n3 := enc_len X 3
   have n2 := enc_len X 2
   obtain ⟨n0, hn0⟩ : ∃ n, 95 + 9 * X.trans.length + 6 * X.types.length + (poolT X).length + (X.foot.length + 2) = n := ⟨_, rfl⟩
   rw [hn0] at n4 n3 n2
   have hn0p : 95 < n0 := by omega
   have hn0b : n0 ≤ 1000 := by
    have hP := (pool_right HR0.out).2.1
    have hF := (right_foot HR0.out).2
    rw [← hn0, HN0.out, HM0.out]
    omega
   have d4 := enc_digit X 4
   have d3 := enc_digit X 3
   have d2 := enc_digit X 2
   have s3 := fun i (h4 : i ≠ 4) (h5 : i ≠ 55) => enc_at X 3 4 (i := i) h4 h5
   have s2 := fun i (h4 : i ≠ 4) (h5 : i ≠ 55) => enc_at X 2 4 (i := i) h4 h5
   obtain ⟨l4, hl4⟩ : ∃ l, encB X 4 = l := ⟨_, rfl⟩
   obtain ⟨l3, hl3⟩ : ∃ l, encB X 3 = l := ⟨_, rfl⟩
   obtain ⟨l2, hl2⟩ : ∃ l, encB X 2 = l := ⟨_, rfl⟩
   rw [hl4] at n4 d4 s3 s2
   rw [hl3] at n3 d3 s3
   rw [hl2] at n2 d2 s2
   have K5 := K5.out
   rw [hl4, hl3, hl2, n4, n3, n2] at K5
   rw [hl4, hl3, hl2, n4, n3, n2]
   obtain ⟨g4, rfl, -, -, -, -⟩ := own_some (K5.row 2 rfl) (show 0 < l4.length by omega)
   obtain ⟨g3, rfl, -, -, -, -⟩ := own_some (K5.row 1 rfl) (show 0 < l3.length by omega)
   obtain ⟨g2, rfl, -, -, -, -⟩ := own_some (K5.row 0 rfl) (show 0 < l2.length by omega)
   have N4 := Lib.hid n4
   have N3 := Lib.hid n3
   have N2 := Lib.hid n2
   have D4 := Lib.hid d4
   have D3 := Lib.hid d3
   have D2 := Lib.hid d2
   have S3 := Lib.hid s3
   have S2 := Lib.hid s2
   have K5 := Lib.hid K5
   clear n4 n3 n2 d4 d3 d2 s3 s2 hl4 hl3 hl2 hn0
   go_upto_region 13 with fail
   clear x0 x1 x2
   go_loopw [15] (fun v15 wr => ∃ i : Nat, i ≤ n0 ∧ v15 = .int .i64 (i : Int) ∧ Kp [(q0, .cells #[.slice xa0 M xc0, .slice ya0 N yc0, .string Ss] 25 (0, 0)), (W.heap.size, .cells #[.slice da0 DN0 dc0, .slice sa0 SN0 sc0, .slice na0 NN0 nc0, .int .i32 be, .int .u8 fo, .int .u8 ba] 41 (0, 0))] (bRow (.slice (some ⟨g2, 0, none⟩) n0 f5) l2 :: bRow (.slice (some ⟨g3, 0, none⟩) n0 f4) l3 :: bRow (.slice (some ⟨g4, 0, none⟩) n0 f3) l4 :: (tabR (.slice xa0 M xc0) (.slice ya0 N yc0) X ++ [])) W wr) (fun v15 _ => n0 - (intOf v15).toNat)
   case atStart => exact ⟨0, by omega, rfl, K5.out⟩
   case round =>
    obtain ⟨i, hi, rfl, hk⟩ := hrel
    have KR := Lib.hid hk
    clear hk K5
    by_cases hlt : i < n0
    · by_cases h4 : i = 4
      · subst h4
        have ca := own_cell (KR.out.row 2 rfl) (j := 4) (u := .int .u8 52) (by show (l4.map u8v)[4]? = _; rw [List.getElem?_map, D4.out.1]; rfl)
        have cb := own_cell (KR.out.row 1 rfl) (j := 4) (u := .int .u8 51) (by show (l3.map u8v)[4]? = _; rw [List.getElem?_map, D3.out.1]; rfl)
        have cc := own_cell (KR.out.row 0 rfl) (j := 4) (u := .int .u8 50) (by show (l2.map u8v)[4]? = _; rw [List.getElem?_map, D2.out.1]; rfl)
        go_wp2_with fail
        go_roundw
        case rel => exact ⟨4 + 1, by omega, by go_num, KR.out⟩
        case measure => simp [intOf]; omega
      by_cases h4 : i = 55
      · subst h4
        have ca := own_cell (KR.out.row 2 rfl) (j := 55) (u := .int .u8 52) (by show (l4.map u8v)[55]? = _; rw [List.getElem?_map, D4.out.2]; rfl)
        have cb := own_cell (KR.out.row 1 rfl) (j := 55) (u := .int .u8 51) (by show (l3.map u8v)[55]? = _; rw [List.getElem?_map, D3.out.2]; rfl)
        have cc := own_cell (KR.out.row 0 rfl) (j := 55) (u := .int .u8 50) (by show (l2.map u8v)[55]? = _; rw [List.getElem?_map, D2.out.2]; rfl)
        go_wp2_with fail
        go_roundw
        case rel => exact ⟨55 + 1, by omega, by go_num, KR.out⟩
        case measure => simp [intOf]; omega
      obtain ⟨z, hz⟩ : ∃ z, l4[i]? = some z := ⟨_, List.getElem?_eq_getElem (by rw [N4.out]; exact hlt)⟩
      have ca := own_cell (KR.out.row 2 rfl) (j := i) (u := .int .u8 (z.toNat : Int)) (by show (l4.map u8v)[i]? = _; rw [List.getElem?_map, hz]; rfl)
      have cb := own_cell (KR.out.row 1 rfl) (j := i) (u := .int .u8 (z.toNat : Int)) (by show (l3.map u8v)[i]? = _; rw [List.getElem?_map, S3.out i (by assumption) (by assumption), hz]; rfl)
      have cc := own_cell (KR.out.row 0 rfl) (j := i) (u := .int .u8 (z.toNat : Int)) (by show (l2.map u8v)[i]? = _; rw [List.getElem?_map, S2.out i (by assumption) (by assumption), hz]; rfl)
      have q4 : ((i : Int) == 4) = false := by simpa using (show ¬ (i : Int) = 4 by omega)
      have q55 : ((i : Int) == 55) = false := by simpa using (show ¬ (i : Int) = 55 by omega)
      obtain ⟨zi, hzi⟩ : ∃ k : Int, (z.toNat : Int) = k := ⟨_, rfl⟩
      rw [hzi] at ca cb cc
      clear hz hzi
      go_upto_region 18 with fail
      have zg4 := ((KR.out.row 2 rfl).lt g4 rfl).2
      have zg3 := ((KR.out.row 1 rfl).lt g3 rfl).2
      have zg2 := ((KR.out.row 0 rfl).lt g2 rfl).2
      refine Pg.wp_region_steps (by kernel_rfl) (Pg.vS [(124, (.slice (some ⟨g4, 0, none⟩) n0 f3)), (125, (.int .i64 (i : Int))), (126, (.pointer (some ⟨g4, i, none⟩))), (127, (.int .u8 zi)), (128, (.slice (some ⟨g3, 0, none⟩) n0 f4)), (129, (.int .i64 (i : Int))), (130, (.pointer (some ⟨g3, i, none⟩))), (131, (.int .u8 zi)), (132, (.bool false)), (133, (.bool false)), (134, (.slice (some ⟨g4, 0, none⟩) n0 f3)), (135, (.int .i64 (i : Int))), (136, (.pointer (some ⟨g4, i, none⟩))), (137, (.int .u8 zi)), (138, (.slice (some ⟨g2, 0, none⟩) n0 f5)), (139, (.int .i64 (i : Int))), (140, (.pointer (some ⟨g2, i, none⟩))), (141, (.int .u8 zi)), (142, (.bool false)), (143, (.bool false))]) (by kernel_rfl) (Pg.guardsB_ok (t := [(133, false)]) (by kernel_rfl) (fun p hp => by
       simp only [List.mem_cons, List.not_mem_nil, or_false] at hp
       rcases hp with rfl <;> rfl)) (fun d w w' v h hB => Pg.vS_keep h hB) ?steps2 ?hend2
      case steps2 =>
       refine Pg.steps_cons 124 rfl ?_ ?_
       · intro T D' w hB0 hold hdep K hK0
         have hK := Lib.hid hK0
         have h9 : T[9]?.getD undef = .slice (some ⟨g4, 0, none⟩) n0 f3 := hold 9 rfl
         clear hold hdep hK0
         go_simp
         exact hK.out _ _ (Below.refl _ _) rfl
       refine Pg.steps_cons 125 rfl ?_ ?_
       · intro T D' w hB0 hold hdep K hK0
         have hK := Lib.hid hK0
         have h15 : T[15]?.getD undef = .int .i64 (i : Int) := hold 15 rfl
         clear hold hdep hK0
         go_simp
         exact hK.out _ _ (Below.refl _ _) rfl
       refine Pg.steps_cons 126 rfl ?_ ?_
       · intro T D' w hB0 hold hdep K hK0
         have hK := Lib.hid hK0
         have q124 : T[124]?.getD undef = (.slice (some ⟨g4, 0, none⟩) n0 f3) := Pg.dep hdep 0 (by kernel_rfl) rfl rfl
         have q125 : T[125]?.getD undef = (.int .i64 (i : Int)) := Pg.dep hdep 1 (by kernel_rfl) rfl rfl
         clear hold hdep hK0
         go_simp
         exact hK.out _ _ (Below.refl _ _) rfl
       refine Pg.steps_cons 127 rfl ?_ ?_
       · intro T D' w hB0 hold hdep K hK0
         have hK := Lib.hid hK0
         have q126 : T[126]?.getD undef = (.pointer (some ⟨g4, i, none⟩)) := Pg.dep hdep 2 (by kernel_rfl) rfl rfl
         have cx : w.cell? ⟨g4, i, none⟩ = some (.int .u8 zi) := (hB0.cell (p := ⟨g4, i, none⟩) zg4).trans ca
         clear hold hdep hK0
         go_simp
         exact hK.out _ _ (Below.refl _ _) rfl
       refine Pg.steps_cons 128 rfl ?_ ?_
       · intro T D' w hB0 hold hdep K hK0
         have hK := Lib.hid hK0
         have h11 : T[11]?.getD undef = .slice (some ⟨g3, 0, none⟩) n0 f4 := hold 11 rfl
         clear hold hdep hK0
         go_simp
         exact hK.out _ _ (Below.refl _ _) rfl
       refine Pg.steps_cons 129 rfl ?_ ?_
       · intro T D' w hB0 hold hdep K hK0
         have hK := Lib.hid hK0
         have h15 : T[15]?.getD undef = .int .i64 (i : Int) := hold 15 rfl
         clear hold hdep hK0
         go_simp
         exact hK.out _ _ (Below.refl _ _) rfl
       refine Pg.steps_cons 130 rfl ?_ ?_
       · intro T D' w hB0 hold hdep K hK0
         have hK := Lib.hid hK0
         have q128 : T[128]?.getD undef = (.slice (some ⟨g3, 0, none⟩) n0 f4) := Pg.dep hdep 4 (by kernel_rfl) rfl rfl
         have q129 : T[129]?.getD undef = (.int .i64 (i : Int)) := Pg.dep hdep 5 (by kernel_rfl) rfl rfl
         clear hold hdep hK0
         go_simp
         exact hK.out _ _ (Below.refl _ _) rfl
       refine Pg.steps_cons 131 rfl ?_ ?_
       · intro T D' w hB0 hold hdep K hK0
         have hK := Lib.hid hK0
         have q130 : T[130]?.getD undef = (.pointer (some ⟨g3, i, none⟩)) := Pg.dep hdep 6 (by kernel_rfl) rfl rfl
         have cx : w.cell? ⟨g3, i, none⟩ = some (.int .u8 zi) := (hB0.cell (p := ⟨g3, i, none⟩) zg3).trans cb
         clear hold hdep hK0
         go_simp
         exact hK.out _ _ (Below.refl _ _) rfl
       refine Pg.steps_cons 132 rfl ?_ ?_
       · intro T D' w hB0 hold hdep K hK0
         have hK := Lib.hid hK0
         have q127 : T[127]?.getD undef = (.int .u8 zi) := Pg.dep hdep 3 (by kernel_rfl) rfl rfl
         have q131 : T[131]?.getD undef = (.int .u8 zi) := Pg.dep hdep 7 (by kernel_rfl) rfl rfl
         clear hold hdep hK0
         go_simp
         exact hK.out _ _ (Below.refl _ _) rfl
       refine Pg.steps_cons 133 rfl ?_ ?_
       · intro T D' w hB0 hold hdep K hK0
         have hK := Lib.hid hK0
         have q132 : T[132]?.getD undef = (.bool false) := Pg.dep hdep 8 (by kernel_rfl) rfl rfl
         clear hold hdep hK0
         go_simp
         exact hK.out _ _ (Below.refl _ _) rfl
       refine Pg.steps_cons 134 rfl ?_ ?_
       · intro T D' w hB0 hold hdep K hK0
         have hK := Lib.hid hK0
         have h9 : T[9]?.getD undef = .slice (some ⟨g4, 0, none⟩) n0 f3 := hold 9 rfl
         clear hold hdep hK0
         go_simp
         exact hK.out _ _ (Below.refl _ _) rfl
       refine Pg.steps_cons 135 rfl ?_ ?_
       · intro T D' w hB0 hold hdep K hK0
         have hK := Lib.hid hK0
         have h15 : T[15]?.getD undef = .int .i64 (i : Int) := hold 15 rfl
         clear hold hdep hK0
         go_simp
         exact hK.out _ _ (Below.refl _ _) rfl
       refine Pg.steps_cons 136 rfl ?_ ?_
       · intro T D' w hB0 hold hdep K hK0
         have hK := Lib.hid hK0
         have q134 : T[134]?.getD undef = (.slice (some ⟨g4, 0, none⟩) n0 f3) := Pg.dep hdep 10 (by kernel_rfl) rfl rfl
         have q135 : T[135]?.getD undef = (.int .i64 (i : Int)) := Pg.dep hdep 11 (by kernel_rfl) rfl rfl
         clear hold hdep hK0
         go_simp
         exact hK.out _ _ (Below.refl _ _) rfl
       refine Pg.steps_cons 137 rfl ?_ ?_
       · intro T D' w hB0 hold hdep K hK0
         have hK := Lib.hid hK0
         have q136 : T[136]?.getD undef = (.pointer (some ⟨g4, i, none⟩)) := Pg.dep hdep 12 (by kernel_rfl) rfl rfl
         have cx : w.cell? ⟨g4, i, none⟩ = some (.int .u8 zi) := (hB0.cell (p := ⟨g4, i, none⟩) zg4).trans ca
         clear hold hdep hK0
         go_simp
         exact hK.out _ _ (Below.refl _ _) rfl
       refine Pg.steps_cons 138 rfl ?_ ?_
       · intro T D' w hB0 hold hdep K hK0
         have hK := Lib.hid hK0
         have h13 : T[13]?.getD undef = .slice (some ⟨g2, 0, none⟩) n0 f5 := hold 13 rfl
         clear hold hdep hK0
         go_simp
         exact hK.out _ _ (Below.refl _ _) rfl
       refine Pg.steps_cons 139 rfl ?_ ?_
       · intro T D' w hB0 hold hdep K hK0
         have hK := Lib.hid hK0
         have h15 : T[15]?.getD undef = .int .i64 (i : Int) := hold 15 rfl
         clear hold hdep hK0
         go_simp
         exact hK.out _ _ (Below.refl _ _) rfl
       refine Pg.steps_cons 140 rfl ?_ ?_
       · intro T D' w hB0 hold hdep K hK0
         have hK := Lib.hid hK0
         have q138 : T[138]?.getD undef = (.slice (some ⟨g2, 0, none⟩) n0 f5) := Pg.dep hdep 14 (by kernel_rfl) rfl rfl
         have q139 : T[139]?.getD undef = (.int .i64 (i : Int)) := Pg.dep hdep 15 (by kernel_rfl) rfl rfl
         clear hold hdep hK0
         go_simp
         exact hK.out _ _ (Below.refl _ _) rfl
       refine Pg.steps_cons 141 rfl ?_ ?_
       · intro T D' w hB0 hold hdep K hK0
         have hK := Lib.hid hK0
         have q140 : T[140]?.getD undef = (.pointer (some ⟨g2, i, none⟩)) := Pg.dep hdep 16 (by kernel_rfl) rfl rfl
         have cx : w.cell? ⟨g2, i, none⟩ = some (.int .u8 zi) := (hB0.cell (p := ⟨g2, i, none⟩) zg2).trans cc
         clear hold hdep hK0
         go_simp
         exact hK.out _ _ (Below.refl _ _) rfl
       refine Pg.steps_cons 142 rfl ?_ ?_
       · intro T D' w hB0 hold hdep K hK0
         have hK := Lib.hid hK0
         have q137 : T[137]?.getD undef = (.int .u8 zi) := Pg.dep hdep 13 (by kernel_rfl) rfl rfl
         have q141 : T[141]?.getD undef = (.int .u8 zi) := Pg.dep hdep 17 (by kernel_rfl) rfl rfl
         clear hold hdep hK0
         go_simp
         exact hK.out _ _ (Below.refl _ _) rfl
       refine Pg.steps_cons 143 rfl ?_ ?_
       · intro T D' w hB0 hold hdep K hK0
         have hK := Lib.hid hK0
         have q133 : T[133]?.getD undef = (.bool false) := Pg.dep hdep 9 (by kernel_rfl) rfl rfl
         have q142 : T[142]?.getD undef = (.bool false) := Pg.dep hdep 18 (by kernel_rfl) rfl rfl
         clear hold hdep hK0
         go_simp
         exact hK.out _ _ (Below.refl _ _) rfl
       exact Pg.steps_nil
      case hend2 =>
       intro T' w hsz hB0 hold hS
       have eF : T'[143]?.getD undef = .bool false := hS 143 (by rfl)
       obtain ⟨G2, hG2⟩ : ∃ G : Nat → Value, ∀ t, T'[t]?.getD undef = G t := ⟨_, fun _ => rfl⟩
       have e' := tmps_mix [124, 125, 126, 127, 128, 129, 130, 131, 132, 133, 134, 135, 136, 137, 138, 139, 140, 141, 142, 143] (by kernel_rfl) hsz hold
       simp only [List.foldl_cons, List.foldl_nil, hG2, List.setIfInBounds_toArray, List.set_cons_zero, List.set_cons_succ] at e'
       rw [hG2] at eF
       have K9 := Lib.hid (KR.out.keep hB0)
       rw [e', eF]
       clear e' eF hold hS hG2 hsz hB0 ca cb cc KR
       go_wp2_with fail
       go_roundw
       case rel => exact ⟨i + 1, by omega, by go_num, K9.out⟩
       case measure => simp [intOf]; omega
    · obtain rfl : i = n0 := by omega
      clear D4 D3 D2 S3 S2 N4 N3 N2
      go_upto_region 20 with fail
      have K6 := KR.out.alloc (.cells #[.int .i64 1, .int .i64 0, .int .i64 (-1 - far), .int .i64 (5 + far)] 3)
      obtain ⟨X6, hX6⟩ : ∃ Z, wr.alloc (.cells #[.int .i64 1, .int .i64 0, .int .i64 (-1 - far), .int .i64 (5 + far)] 3) = Z := ⟨_, rfl⟩
      obtain ⟨q6, hq6⟩ : ∃ Z, wr.heap.size = Z := ⟨_, rfl⟩
      rw [hX6, hq6] at K6
      have HX6 := Lib.hid hX6
      have HQ6 := Lib.hid hq6
      have K6 := Lib.hid K6
      clear hX6 hq6 KR
      go_wp2_with fail
      rw [HX6.out, HQ6.out]
      clear HX6 HQ6
      go_loopw [152] (fun v152 wx => ∃ j : Nat, j ≤ 4 ∧ v152 = .int .i64 (j : Int) ∧ Kp ((q6, .cells #[.int .i64 1, .int .i64 0, .int .i64 (-1 - far), .int .i64 (5 + far)] 3 (0, 0)) :: [(q0, .cells #[.slice xa0 M xc0, .slice ya0 N yc0, .string Ss] 25 (0, 0)), (W.heap.size, .cells #[.slice da0 DN0 dc0, .slice sa0 SN0 sc0, .slice na0 NN0 nc0, .int .i32 be, .int .u8 fo, .int .u8 ba] 41 (0, 0))]) (bRow (.slice (some ⟨g2, 0, none⟩) i f5) l2 :: bRow (.slice (some ⟨g3, 0, none⟩) i f4) l3 :: bRow (.slice (some ⟨g4, 0, none⟩) i f3) l4 :: (tabR (.slice xa0 M xc0) (.slice ya0 N yc0) X ++ [])) W wx) (fun v152 _ => 4 - (intOf v152).toNat)
      case atStart => exact ⟨0, by omega, rfl, K6.out⟩
      case round =>
       obtain ⟨j, hj, rfl, hk⟩ := hrel
       have KR := Lib.hid hk
       clear hk K6
       obtain ⟨⟨x0, x1, x2⟩, _, _, _⟩ := row3 (KR.out.at 1 rfl)
       by_cases hlt : j < 4
       · obtain ⟨vv, hvv, hbad⟩ : ∃ v : Int, (#[.int .i64 1, .int .i64 0, .int .i64 (-1 - far), .int .i64 (5 + far)] : Array Value)[j]? = some (.int .i64 v) ∧ (v < 2 ∨ 4 < v) := by
           rcases (show j = 0 ∨ j = 1 ∨ j = 2 ∨ j = 3 by omega) with rfl | rfl | rfl | rfl
           · exact ⟨_, rfl, by omega⟩
           · exact ⟨_, rfl, by omega⟩
           · exact ⟨_, rfl, by omega⟩
           · exact ⟨_, rfl, by omega⟩
         have cv := cells_at (KR.out.at 0 rfl) j
         rw [hvv] at cv
         have hlt2 : (j : Int) < 4 := by omega
         clear hvv
         go_wp2_with fail
         have C1 := CE.out X _ _ Ss vv _ (tab_rows (x := X) (KR.out.row 3 rfl) (KR.out.row 4 rfl) rfl rfl HF0.out HS0.out) (HE.out.keep KR.out.below) (by rw [HN0.out]; omega)
         rw [encE_vers HR0.out (by omega)] at C1
         dsimp only at C1
         refine C1.mono ?_
         rintro _ wy ⟨ov, rfl, hk⟩
         obtain ⟨ey, fy, rfl⟩ := bRow_slice (hk.row 0 rfl)
         have K7 := Lib.hid ((KR.out.adopt hk).less (List.sublist_cons_self _ _))
         clear hk C1 KR x0 x1 x2 cv
         go_wp2_with fail
         go_roundw
         case rel => exact ⟨j + 1, by omega, by go_num, K7.out⟩
         case measure => simp [intOf]; omega
       · obtain rfl : j = 4 := by omega
         go_wp2_with fail
         refine (CW.out _ (HE.out.keep KR.out.below)).mono ?_
         rintro _ wz ⟨rfl, hb⟩
         have K7 := Lib.hid (KR.out.keep hb)
         clear hb
         go_wp2_with fail
         go_ret
         exact ⟨rfl, K7.out.below⟩
 · skip
   go_wp2_with fail
   have C1 := CE.out X _ _ Ss 4 _ (tab_rows (x := X) (K2.out.row 0 rfl) (K2.out.row 1 rfl) rfl rfl HF0.out HS0.out) (HE.out.keep K2.out.below) (by rw [HN0.out]; omega)
   rw [encE_ok HR0.out (by omega)] at C1
   dsimp only at C1
   refine C1.mono ?_
   rintro _ w3 ⟨ov, rfl, hk⟩
   obtain ⟨e3, f3, rfl⟩ := bRow_slice (hk.row 0 rfl)
   have K3 := Lib.hid (K2.out.adopt hk)
   clear hk C1 K2 x0 x1 x2
   obtain ⟨⟨x0, x1, x2⟩, _, _, _⟩ := row3 (K3.out.at 0 rfl)
   go_wp2_with fail
   have C1 := CE.out X _ _ Ss 3 _ (tab_rows (x := X) (K3.out.row 1 rfl) (K3.out.row 2 rfl) rfl rfl HF0.out HS0.out) (HE.out.keep K3.out.below) (by rw [HN0.out]; omega)
   rw [encE_ok HR0.out (by omega)] at C1
   dsimp only at C1
   refine C1.mono ?_
   rintro _ w4 ⟨ov, rfl, hk⟩
   obtain ⟨e4, f4, rfl⟩ := bRow_slice (hk.row 0 rfl)
   have K4 := Lib.hid (K3.out.adopt hk)
   clear hk C1 K3 x0 x1 x2
   obtain ⟨⟨x0, x1, x2⟩, _, _, _⟩ := row3 (K4.out.at 0 rfl)
   go_wp2_with fail
   have C1 := CE.out X _ _ Ss 2 _ (tab_rows (x := X) (K4.out.row 2 rfl) (K4.out.row 3 rfl) rfl rfl HF0.out HS0.out) (HE.out.keep K4.out.below) (by rw [HN0.out]; omega)
   rw [encE_vers HR0.out (by omega)] at C1
   dsimp only at C1
   refine C1.mono ?_
   rintro _ w5 ⟨ov, rfl, hk⟩
   obtain ⟨e5, f5, rfl⟩ := bRow_slice (hk.row 0 rfl)
   have K5 := Lib.hid (K4.out.adopt hk)
   clear hk C1 K4 x0 x1 x2
   obtain ⟨⟨x0, x1, x2⟩, _, _, _⟩ := row3 (K5.out.at 0 rfl)
   have n4 := enc_len X 4
   have n3 := enc_len X 3
   have n2 := enc_len X 2
   obtain ⟨n0, hn0⟩ : ∃ n, 95 + 9 * X.trans.length + 6 * X.types.length + (poolT X).length + (X.foot.length + 2) = n := ⟨_, rfl⟩
   rw [hn0] at n4 n3 n2
   have hn0p : 95 < n0 := by omega
   have hn0b : n0 ≤ 1000 := by
    have hP := (pool_right HR0.out).2.1
    have hF := (right_foot HR0.out).2
    rw [← hn0, HN0.out, HM0.out]
    omega
   have d4 := enc_digit X 4
   have d3 := enc_digit X 3
   have d2 := enc_digit X 2
   have s3 := fun i (h4 : i ≠ 4) (h5 : i ≠ 55) => enc_at X 3 4 (i := i) h4 h5
   have s2 := fun i (h4 : i ≠ 4) (h5 : i ≠ 55) => enc_at X 2 4 (i := i) h4 h5
   obtain ⟨l4, hl4⟩ : ∃ l, encB X 4 = l := ⟨_, rfl⟩
   obtain ⟨l3, hl3⟩ : ∃ l, encB X 3 = l := ⟨_, rfl⟩
   obtain ⟨l2, hl2⟩ : ∃ l, encB X 2 = l := ⟨_, rfl⟩
   rw [hl4] at n4 d4 s3 s2
   rw [hl3] at n3 d3 s3
   rw [hl2] at n2 d2 s2
   have K5 := K5.out
   rw [hl4, hl3, n4, n3] at K5
   rw [hl4, hl3, n4, n3]
   obtain ⟨g4, rfl, -, -, -, -⟩ := own_some (K5.row 2 rfl) (show 0 < l4.length by omega)
   obtain ⟨g3, rfl, -, -, -, -⟩ := own_some (K5.row 1 rfl) (show 0 < l3.length by omega)
   have N4 := Lib.hid n4
   have N3 := Lib.hid n3
   have N2 := Lib.hid n2
   have D4 := Lib.hid d4
   have D3 := Lib.hid d3
   have D2 := Lib.hid d2
   have S3 := Lib.hid s3
   have S2 := Lib.hid s2
   have K5 := Lib.hid K5
   clear n4 n3 n2 d4 d3 d2 s3 s2 hl4 hl3 hl2 hn0
   go_upto_region 13 with fail
   clear x0 x1 x2
   go_loopw [15] (fun v15 wr => ∃ i : Nat, i ≤ n0 ∧ v15 = .int .i64 (i : Int) ∧ Kp [(q0, .cells #[.slice xa0 M xc0, .slice ya0 N yc0, .string Ss] 25 (0, 0)), (W.heap.size, .cells #[.slice da0 DN0 dc0, .slice sa0 SN0 sc0, .slice na0 NN0 nc0, .int .i32 be, .int .u8 fo, .int .u8 ba] 41 (0, 0))] (bRow (.slice e5 0 f5) [] :: bRow (.slice (some ⟨g3, 0, none⟩) n0 f4) l3 :: bRow (.slice (some ⟨g4, 0, none⟩) n0 f3) l4 :: (tabR (.slice xa0 M xc0) (.slice ya0 N yc0) X ++ [])) W wr) (fun v15 _ => n0 - (intOf v15).toNat)
   case atStart => exact ⟨0, by omega, rfl, K5.out⟩
   case round =>
    obtain ⟨i, hi, rfl, hk⟩ := hrel
    have KR := Lib.hid hk
    clear hk K5
    by_cases hlt : i < n0
    · by_cases h4 : i = 4
      · subst h4
        have ca := own_cell (KR.out.row 2 rfl) (j := 4) (u := .int .u8 52) (by show (l4.map u8v)[4]? = _; rw [List.getElem?_map, D4.out.1]; rfl)
        have cb := own_cell (KR.out.row 1 rfl) (j := 4) (u := .int .u8 51) (by show (l3.map u8v)[4]? = _; rw [List.getElem?_map, D3.out.1]; rfl)
        go_wp2_with fail
        go_roundw
        case rel => exact ⟨4 + 1, by omega, by go_num, KR.out⟩
        case measure => simp [intOf]; omega
      by_cases h4 : i = 55
      · subst h4
        have ca := own_cell (KR.out.row 2 rfl) (j := 55) (u := .int .u8 52) (by show (l4.map u8v)[55]? = _; rw [List.getElem?_map, D4.out.2]; rfl)
        have cb := own_cell (KR.out.row 1 rfl) (j := 55) (u := .int .u8 51) (by show (l3.map u8v)[55]? = _; rw [List.getElem?_map, D3.out.2]; rfl)
        go_wp2_with fail
        go_roundw
        case rel => exact ⟨55 + 1, by omega, by go_num, KR.out⟩
        case measure => simp [intOf]; omega
      obtain ⟨z, hz⟩ : ∃ z, l4[i]? = some z := ⟨_, List.getElem?_eq_getElem (by rw [N4.out]; exact hlt)⟩
      have ca := own_cell (KR.out.row 2 rfl) (j := i) (u := .int .u8 (z.toNat : Int)) (by show (l4.map u8v)[i]? = _; rw [List.getElem?_map, hz]; rfl)
      have cb := own_cell (KR.out.row 1 rfl) (j := i) (u := .int .u8 (z.toNat : Int)) (by show (l3.map u8v)[i]? = _; rw [List.getElem?_map, S3.out i (by assumption) (by assumption), hz]; rfl)
      have q4 : ((i : Int) == 4) = false := by simpa using (show ¬ (i : Int) = 4 by omega)
      have q55 : ((i : Int) == 55) = false := by simpa using (show ¬ (i : Int) = 55 by omega)
      obtain ⟨zi, hzi⟩ : ∃ k : Int, (z.toNat : Int) = k := ⟨_, rfl⟩
      rw [hzi] at ca cb
      clear hz hzi
      go_upto_region 18 with fail
      have zg4 := ((KR.out.row 2 rfl).lt g4 rfl).2
      have zg3 := ((KR.out.row 1 rfl).lt g3 rfl).2
      refine Pg.wp_region_steps (by kernel_rfl) (Pg.vS [(124, (.slice (some ⟨g4, 0, none⟩) n0 f3)), (125, (.int .i64 (i : Int))), (126, (.pointer (some ⟨g4, i, none⟩))), (127, (.int .u8 zi)), (128, (.slice (some ⟨g3, 0, none⟩) n0 f4)), (129, (.int .i64 (i : Int))), (130, (.pointer (some ⟨g3, i, none⟩))), (131, (.int .u8 zi)), (132, (.bool false)), (133, (.bool false)), (134, (.slice (some ⟨g4, 0, none⟩) n0 f3)), (135, (.int .i64 (i : Int))), (136, (.pointer (some ⟨g4, i, none⟩))), (137, (.int .u8 zi)), (138, (.slice (some ⟨g3, 0, none⟩) n0 f4)), (139, (.int .i64 (i : Int))), (140, (.pointer (some ⟨g3, i, none⟩))), (141, (.int .u8 zi)), (142, (.bool false)), (143, (.bool false))]) (by kernel_rfl) (Pg.guardsB_ok (t := [(133, false)]) (by kernel_rfl) (fun p hp => by
       simp only [List.mem_cons, List.not_mem_nil, or_false] at hp
       rcases hp with rfl <;> rfl)) (fun d w w' v h hB => Pg.vS_keep h hB) ?steps2 ?hend2
      case steps2 =>
       refine Pg.steps_cons 124 rfl ?_ ?_
       · intro T D' w hB0 hold hdep K hK0
         have hK := Lib.hid hK0
         have h9 : T[9]?.getD undef = .slice (some ⟨g4, 0, none⟩) n0 f3 := hold 9 rfl
         clear hold hdep hK0
         go_simp
         exact hK.out _ _ (Below.refl _ _) rfl
       refine Pg.steps_cons 125 rfl ?_ ?_
       · intro T D' w hB0 hold hdep K hK0
         have hK := Lib.hid hK0
         have h15 : T[15]?.getD undef = .int .i64 (i : Int) := hold 15 rfl
         clear hold hdep hK0
         go_simp
         exact hK.out _ _ (Below.refl _ _) rfl
       refine Pg.steps_cons 126 rfl ?_ ?_
       · intro T D' w hB0 hold hdep K hK0
         have hK := Lib.hid hK0
         have q124 : T[124]?.getD undef = (.slice (some ⟨g4, 0, none⟩) n0 f3) := Pg.dep hdep 0 (by kernel_rfl) rfl rfl
         have q125 : T[125]?.getD undef = (.int .i64 (i : Int)) := Pg.dep hdep 1 (by kernel_rfl) rfl rfl
         clear hold hdep hK0
         go_simp
         exact hK.out _ _ (Below.refl _ _) rfl
       refine Pg.steps_cons 127 rfl ?_ ?_
       · intro T D' w hB0 hold hdep K hK0
         have hK := Lib.hid hK0
         have q126 : T[126]?.getD undef = (.pointer (some ⟨g4, i, none⟩)) := Pg.dep hdep 2 (by kernel_rfl) rfl rfl
         have cx : w.cell? ⟨g4, i, none⟩ = some (.int .u8 zi) := (hB0.cell (p := ⟨g4, i, none⟩) zg4).trans ca
         clear hold hdep hK0
         go_simp
         exact hK.out _ _ (Below.refl _ _) rfl
       refine Pg.steps_cons 128 rfl ?_ ?_
       · intro T D' w hB0 hold hdep K hK0
         have hK := Lib.hid hK0
         have h11 : T[11]?.getD undef = .slice (some ⟨g3, 0, none⟩) n0 f4 := hold 11 rfl
         clear hold hdep hK0
         go_simp
         exact hK.out _ _ (Below.refl _ _) rfl
       refine Pg.steps_cons 129 rfl ?_ ?_
       · intro T D' w hB0 hold hdep K hK0
         have hK := Lib.hid hK0
         have h15 : T[15]?.getD undef = .int .i64 (i : Int) := hold 15 rfl
         clear hold hdep hK0
         go_simp
         exact hK.out _ _ (Below.refl _ _) rfl
       refine Pg.steps_cons 130 rfl ?_ ?_
       · intro T D' w hB0 hold hdep K hK0
         have hK := Lib.hid hK0
         have q128 : T[128]?.getD undef = (.slice (some ⟨g3, 0, none⟩) n0 f4) := Pg.dep hdep 4 (by kernel_rfl) rfl rfl
         have q129 : T[129]?.getD undef = (.int .i64 (i : Int)) := Pg.dep hdep 5 (by kernel_rfl) rfl rfl
         clear hold hdep hK0
         go_simp
         exact hK.out _ _ (Below.refl _ _) rfl
       refine Pg.steps_cons 131 rfl ?_ ?_
       · intro T D' w hB0 hold hdep K hK0
         have hK := Lib.hid hK0
         have q130 : T[130]?.getD undef = (.pointer (some ⟨g3, i, none⟩)) := Pg.dep hdep 6 (by kernel_rfl) rfl rfl
         have cx : w.cell? ⟨g3, i, none⟩ = some (.int .u8 zi) := (hB0.cell (p := ⟨g3, i, none⟩) zg3).trans cb
         clear hold hdep hK0
         go_simp
         exact hK.out _ _ (Below.refl _ _) rfl
       refine Pg.steps_cons 132 rfl ?_ ?_
       · intro T D' w hB0 hold hdep K hK0
         have hK := Lib.hid hK0
         have q127 : T[127]?.getD undef = (.int .u8 zi) := Pg.dep hdep 3 (by kernel_rfl) rfl rfl
         have q131 : T[131]?.getD undef = (.int .u8 zi) := Pg.dep hdep 7 (by kernel_rfl) rfl rfl
         clear hold hdep hK0
         go_simp
         exact hK.out _ _ (Below.refl _ _) rfl
       refine Pg.steps_cons 133 rfl ?_ ?_
       · intro T D' w hB0 hold hdep K hK0
         have hK := Lib.hid hK0
         have q132 : T[132]?.getD undef = (.bool false) := Pg.dep hdep 8 (by kernel_rfl) rfl rfl
         clear hold hdep hK0
         go_simp
         exact hK.out _ _ (Below.refl _ _) rfl
       refine Pg.steps_cons 134 rfl ?_ ?_
       · intro T D' w hB0 hold hdep K hK0
         have hK := Lib.hid hK0
         have h9 : T[9]?.getD undef = .slice (some ⟨g4, 0, none⟩) n0 f3 := hold 9 rfl
         clear hold hdep hK0
         go_simp
         exact hK.out _ _ (Below.refl _ _) rfl
       refine Pg.steps_cons 135 rfl ?_ ?_
       · intro T D' w hB0 hold hdep K hK0
         have hK := Lib.hid hK0
         have h15 : T[15]?.getD undef = .int .i64 (i : Int) := hold 15 rfl
         clear hold hdep hK0
         go_simp
         exact hK.out _ _ (Below.refl _ _) rfl
       refine Pg.steps_cons 136 rfl ?_ ?_
       · intro T D' w hB0 hold hdep K hK0
         have hK := Lib.hid hK0
         have q134 : T[134]?.getD undef = (.slice (some ⟨g4, 0, none⟩) n0 f3) := Pg.dep hdep 10 (by kernel_rfl) rfl rfl
         have q135 : T[135]?.getD undef = (.int .i64 (i : Int)) := Pg.dep hdep 11 (by kernel_rfl) rfl rfl
         clear hold hdep hK0
         go_simp
         exact hK.out _ _ (Below.refl _ _) rfl
       refine Pg.steps_cons 137 rfl ?_ ?_
       · intro T D' w hB0 hold hdep K hK0
         have hK := Lib.hid hK0
         have q136 : T[136]?.getD undef = (.pointer (some ⟨g4, i, none⟩)) := Pg.dep hdep 12 (by kernel_rfl) rfl rfl
         have cx : w.cell? ⟨g4, i, none⟩ = some (.int .u8 zi) := (hB0.cell (p := ⟨g4, i, none⟩) zg4).trans ca
         clear hold hdep hK0
         go_simp
         exact hK.out _ _ (Below.refl _ _) rfl
       refine Pg.steps_cons 138 rfl ?_ ?_
       · intro T D' w hB0 hold hdep K hK0
         have hK := Lib.hid hK0
         have h13 : T[13]?.getD undef = .slice (some ⟨g3, 0, none⟩) n0 f4 := hold 13 rfl
         clear hold hdep hK0
         go_simp
         exact hK.out _ _ (Below.refl _ _) rfl
       refine Pg.steps_cons 139 rfl ?_ ?_
       · intro T D' w hB0 hold hdep K hK0
         have hK := Lib.hid hK0
         have h15 : T[15]?.getD undef = .int .i64 (i : Int) := hold 15 rfl
         clear hold hdep hK0
         go_simp
         exact hK.out _ _ (Below.refl _ _) rfl
       refine Pg.steps_cons 140 rfl ?_ ?_
       · intro T D' w hB0 hold hdep K hK0
         have hK := Lib.hid hK0
         have q138 : T[138]?.getD undef = (.slice (some ⟨g3, 0, none⟩) n0 f4) := Pg.dep hdep 14 (by kernel_rfl) rfl rfl
         have q139 : T[139]?.getD undef = (.int .i64 (i : Int)) := Pg.dep hdep 15 (by kernel_rfl) rfl rfl
         clear hold hdep hK0
         go_simp
         exact hK.out _ _ (Below.refl _ _) rfl
       refine Pg.steps_cons 141 rfl ?_ ?_
       · intro T D' w hB0 hold hdep K hK0
         have hK := Lib.hid hK0
         have q140 : T[140]?.getD undef = (.pointer (some ⟨g3, i, none⟩)) := Pg.dep hdep 16 (by kernel_rfl) rfl rfl
         have cx : w.cell? ⟨g3, i, none⟩ = some (.int .u8 zi) := (hB0.cell (p := ⟨g3, i, none⟩) zg3).trans cb
         clear hold hdep hK0
         go_simp
         exact hK.out _ _ (Below.refl _ _) rfl
       refine Pg.steps_cons 142 rfl ?_ ?_
       · intro T D' w hB0 hold hdep K hK0
         have hK := Lib.hid hK0
         have q137 : T[137]?.getD undef = (.int .u8 zi) := Pg.dep hdep 13 (by kernel_rfl) rfl rfl
         have q141 : T[141]?.getD undef = (.int .u8 zi) := Pg.dep hdep 17 (by kernel_rfl) rfl rfl
         clear hold hdep hK0
         go_simp
         exact hK.out _ _ (Below.refl _ _) rfl
       refine Pg.steps_cons 143 rfl ?_ ?_
       · intro T D' w hB0 hold hdep K hK0
         have hK := Lib.hid hK0
         have q133 : T[133]?.getD undef = (.bool false) := Pg.dep hdep 9 (by kernel_rfl) rfl rfl
         have q142 : T[142]?.getD undef = (.bool false) := Pg.dep hdep 18 (by kernel_rfl) rfl rfl
         clear hold hdep hK0
         go_simp
         exact hK.out _ _ (Below.refl _ _) rfl
       exact Pg.steps_nil
      case hend2 =>
       intro T' w hsz hB0 hold hS
       have eF : T'[143]?.getD undef = .bool false := hS 143 (by rfl)
       obtain ⟨G2, hG2⟩ : ∃ G : Nat → Value, ∀ t, T'[t]?.getD undef = G t := ⟨_, fun _ => rfl⟩
       have e' := tmps_mix [124, 125, 126, 127, 128, 129, 130, 131, 132, 133, 134, 135, 136, 137, 138, 139, 140, 141, 142, 143] (by kernel_rfl) hsz hold
       simp only [List.foldl_cons, List.foldl_nil, hG2, List.setIfInBounds_toArray, List.set_cons_zero, List.set_cons_succ] at e'
       rw [hG2] at eF
       have K9 := Lib.hid (KR.out.keep hB0)
       rw [e', eF]
       clear e' eF hold hS hG2 hsz hB0 ca cb KR
       go_wp2_with fail
       go_roundw
       case rel => exact ⟨i + 1, by omega, by go_num, K9.out⟩
       case measure => simp [intOf]; omega
    · obtain rfl : i = n0 := by omega
      clear D4 D3 D2 S3 S2 N4 N3 N2
      go_upto_region 20 with fail
      have K6 := KR.out.alloc (.cells #[.int .i64 1, .int .i64 0, .int .i64 (-1 - far), .int .i64 (5 + far)] 3)
      obtain ⟨X6, hX6⟩ : ∃ Z, wr.alloc (.cells #[.int .i64 1, .int .i64 0, .int .i64 (-1 - far), .int .i64 (5 + far)] 3) = Z := ⟨_, rfl⟩
      obtain ⟨q6, hq6⟩ : ∃ Z, wr.heap.size = Z := ⟨_, rfl⟩
      rw [hX6, hq6] at K6
      have HX6 := Lib.hid hX6
      have HQ6 := Lib.hid hq6
      have K6 := Lib.hid K6
      clear hX6 hq6 KR
      go_wp2_with fail
      rw [HX6.out, HQ6.out]
      clear HX6 HQ6
      go_loopw [152] (fun v152 wx => ∃ j : Nat, j ≤ 4 ∧ v152 = .int .i64 (j : Int) ∧ Kp ((q6, .cells #[.int .i64 1, .int .i64 0, .int .i64 (-1 - far), .int .i64 (5 + far)] 3 (0, 0)) :: [(q0, .cells #[.slice xa0 M xc0, .slice ya0 N yc0, .string Ss] 25 (0, 0)), (W.heap.size, .cells #[.slice da0 DN0 dc0, .slice sa0 SN0 sc0, .slice na0 NN0 nc0, .int .i32 be, .int .u8 fo, .int .u8 ba] 41 (0, 0))]) (bRow (.slice e5 0 f5) [] :: bRow (.slice (some ⟨g3, 0, none⟩) i f4) l3 :: bRow (.slice (some ⟨g4, 0, none⟩) i f3) l4 :: (tabR (.slice xa0 M xc0) (.slice ya0 N yc0) X ++ [])) W wx) (fun v152 _ => 4 - (intOf v152).toNat)
      case atStart => exact ⟨0, by omega, rfl, K6.out⟩
      case round =>
       obtain ⟨j, hj, rfl, hk⟩ := hrel
       have KR := Lib.hid hk
       clear hk K6
       obtain ⟨⟨x0, x1, x2⟩, _, _, _⟩ := row3 (KR.out.at 1 rfl)
       by_cases hlt : j < 4
       · obtain ⟨vv, hvv, hbad⟩ : ∃ v : Int, (#[.int .i64 1, .int .i64 0, .int .i64 (-1 - far), .int .i64 (5 + far)] : Array Value)[j]? = some (.int .i64 v) ∧ (v < 2 ∨ 4 < v) := by
           rcases (show j = 0 ∨ j = 1 ∨ j = 2 ∨ j = 3 by omega) with rfl | rfl | rfl | rfl
           · exact ⟨_, rfl, by omega⟩
           · exact ⟨_, rfl, by omega⟩
           · exact ⟨_, rfl, by omega⟩
           · exact ⟨_, rfl, by omega⟩
         have cv := cells_at (KR.out.at 0 rfl) j
         rw [hvv] at cv
         have hlt2 : (j : Int) < 4 := by omega
         clear hvv
         go_wp2_with fail
         have C1 := CE.out X _ _ Ss vv _ (tab_rows (x := X) (KR.out.row 3 rfl) (KR.out.row 4 rfl) rfl rfl HF0.out HS0.out) (HE.out.keep KR.out.below) (by rw [HN0.out]; omega)
         rw [encE_vers HR0.out (by omega)] at C1
         dsimp only at C1
         refine C1.mono ?_
         rintro _ wy ⟨ov, rfl, hk⟩
         obtain ⟨ey, fy, rfl⟩ := bRow_slice (hk.row 0 rfl)
         have K7 := Lib.hid ((KR.out.adopt hk).less (List.sublist_cons_self _ _))
         clear hk C1 KR x0 x1 x2 cv
         go_wp2_with fail
         go_roundw
         case rel => exact ⟨j + 1, by omega, by go_num, K7.out⟩
         case measure => simp [intOf]; omega
       · obtain rfl : j = 4 := by omega
         go_wp2_with fail
         refine (CW.out _ (HE.out.keep KR.out.below)).mono ?_
         rintro _ wz ⟨rfl, hb⟩
         have K7 := Lib.hid (KR.out.keep hb)
         clear hb
         go_wp2_with fail
         go_ret
         exact ⟨rfl, K7.out.below⟩
end Go.Proofs.YtkpmmabdpeobaaaGreatDoor.Px
namespace Go.Proofs.YtkpmmabdpeobaaaGreatDoor.Px
open Go.RowKit
open Civ Tb
theorem tzifVersions_walk (x : D40) (tv sv nv : Value) {W : World} (h : D40V W tv sv nv x) (hin : D40.In x) (far : Int) (hn : (Lit.int .u32 far).wf = true) (hE : EnvAt W) (hm : ∃ m, W.cell? ⟨1, 0, none⟩ = some (.int .i64 m)) :
 Calls Tryz.prog 4 #[d40val x tv sv nv, .int .u32 far] W fun e w' => e = .returned (.bool true) ∧ Below W.heap.size W w' := by
 obtain ⟨TY, ST, NX, be, fo, ba⟩ := x
 exact tzifVersions_cells TY ST NX be fo ba tv sv nv far W h hin (wf_u32 hn).1 (by have := (wf_u32 hn).2; omega) ⟨hE, hm⟩
end Go.Proofs.YtkpmmabdpeobaaaGreatDoor.Px
namespace Go.Proofs.YtkpmmabdpeobaaaGreatDoor
open Go.ChangeShapes Go.WideShapes Go.ChangeAt Go.RowKit
open Go.ChangeMaps (open_string)
namespace tzifVersions
theorem own : ownKnob Tryz.prog.godebug = none := by kernel_rfl
set_option maxRecDepth 100000 in
theorem lifted (os : Os) (started : os.Started) (H : Type) (enc : TypeId × Value → H) :
 ReturnsInHanded {} Tryz.checked os 4 .any (fun w args => (Rows.tzifVersionsSpec.pre enc Tryz.prog Tryz.f4 Rows.tzifVersionsRow.domain false w args ∧ laidMetH Tryz.prog Rows.tzifVersionsRow.laid w) ∧ sizedMet enc Tryz.prog Tryz.f4 (OpenSpec.ofChange Rows.tzifVersionsSpec) false w args)
  (Rows.tzifVersionsSpec.post enc Tryz.prog Tryz.f4 false true false false) := by
 refine handed_both (X := fun w _ => laidMetH Tryz.prog Rows.tzifVersionsRow.laid w) (fun _ _ _ hh h => h.of_heap hh) own started (by kernel_rfl) Tryz.func4
  (ChangeSpec.witness_shaped (enc := enc) (C := Tryz.checked) (os := os) (X := fun w _ => laidMetH Tryz.prog Rows.tzifVersionsRow.laid w) false ((World.doorLaid Tryz.prog 4000 os).layVars Tryz.prog [("unicode/utf8.first", Rows.laid_unicode_utf8_first)]) #[.agg #[.slice none 0 0, .slice none 0 0, .slice none 0 0, .int .i32 0, .int .u8 0, .int .u8 0], .int .u32 0] 8 (door_os os)
   (World.shaped_of_ZipB (by kernel_rfl) (by kernel_rfl)) (by kernel_rfl) (by kernel_rfl) (by kernel_rfl) (door_met os _)) ?_
 intro W base args ds gs before hval0 hW hSh _ hL
 have hMx := maxLen_cell hSh
 have hval : ∀ (j : Nat) t v, Tryz.f4.params[j]? = some t → args[j]? = some v → Value.okWide Tryz.prog W .any base t v := hval0
 have hEnv : Px.EnvAt W := Px.env_of hL
 have hW' := hW
 obtain ⟨p, q, hA0, hV, rfl, _, _⟩ := hW
 have hA : DataW.TrodAll enc Tryz.prog W 0 (fun _ => true) true Tryz.f4.params.toList args.toList ds p := hA0
 rw [Tryz.params4] at hA hval
 obtain ⟨v0, vs0, d0, ds0, p0, q0, hargs, rfl, rfl, h0, r0⟩ := trodAll_cons hA
 obtain ⟨v1, vs1, d1, ds1, p1, q1, rfl, rfl, rfl, h1, r1⟩ := trodAll_cons r0
 obtain ⟨rfl, rfl, rfl⟩ := trodAll_nil r1
 obtain rfl : args = #[v0, v1] := by cases args; simp_all
 obtain ⟨rfl, rfl⟩ := trodVars_none hV
 obtain ⟨x0, tv0, sv0, nv0, rfl, hx0, hd0⟩ := Px.open_d40 (hval 0 41 v0 rfl rfl) h0
 obtain ⟨n1, rfl, rfl, rfl, hn1⟩ := open_int Tryz.underlying42 (hval 1 42 v1 rfl rfl) h1
 refine (Px.tzifVersions_walk x0 tv0 sv0 nv0 hx0 hd0 n1 hn1 hEnv hMx).mono fun e W' ⟨he, hB⟩ => ?_
 subst he
 refine ⟨_, rfl, post_law (by kernel_rfl) ?_ rfl hW' rfl rfl Tryz.underlying4 hB⟩
 rw [Tryz.params4]
 intro t ht
 have hall : ([41, 42].all fun u => Tryz.prog.readableRec u && decide (u < Tryz.prog.types.size)) = true := by kernel_rfl
 have h1 := List.all_eq_true.1 hall t ht
 have h2 : Tryz.prog.readableRec t = true ∧ t < Tryz.prog.types.size := by simpa using h1
 exact h2
set_option maxHeartbeats 8000000 in
theorem facts : joinedFacts Tryz.pinned.checked.prog 4 Tryz.f4 Rows.tzifVersionsSpec Rows.tzifVersionsRow = true := by
 simp only [joinedFacts, Bool.and_eq_true]
 and_intros
 all_goals (as_aux_lemma => kernel_rfl)
theorem named : Tryz.pinned.checked.prog.funcNamed Rows.tzifVersionsRow.func = some 4 := by kernel_rfl
theorem said : Rows.TzifVersionsSaid :=
 OpenClaim.holds_of_wide 4 Tryz.f4 rfl rfl rfl rfl rfl rfl rfl ⟨rfl, rfl, rfl, rfl, rfl⟩ rfl rfl rfl rfl rfl named Tryz.func4 facts
  (of_decide_eq_true (by kernel_rfl)) (by unfold Func.isWrapper; first | (rw [if_pos (by decide +kernel)]; kernel_rfl) | (rw [if_neg (by decide +kernel)]; exact ⟨rfl, rfl⟩))
  (fun os started H enc _ => lifted os started H enc)
theorem plain (f : FuncId) (fn : Func) (hf : Tryz.pinned.checked.prog.funcNamed "analemma/analemmalaw42.TzifVersions" = some f) (hfn : Tryz.pinned.checked.prog.funcs[f]? = some fn) :
 true = Tryz.pinned.checked.prog.looks [] ∧ ∀ (j : Nat) t, fn.params[j]? = some t → Tryz.pinned.checked.prog.wantsStandIn t = false := by
 obtain rfl : f = 4 := Option.some.inj ((show Tryz.prog.funcNamed "analemma/analemmalaw42.TzifVersions" = some 4 by kernel_rfl).symm.trans hf) |>.symm
 obtain rfl : fn = Tryz.f4 := (Option.some.inj (Tryz.func4.symm.trans hfn)).symm
 refine ⟨by kernel_rfl, fun j t ht => ?_⟩
 rw [Tryz.params4] at ht
 have hm : t ∈ [41, 42] := by simpa using Array.mem_of_getElem? ht
 have hall : ([41, 42].all fun u => !Tryz.prog.wantsStandIn u) = true := by kernel_rfl
 exact (show Tryz.prog.wantsStandIn t = false by simpa using List.all_eq_true.1 hall t hm)
theorem card : Rows.TzifVersionsCardSaid :=
 Claim7.holds_tied_plain_at .later [] _ _ _ _ said (fun _ h => by cases h) (by kernel_rfl) (fun _ h => by cases h) tzifVersions_row_tie rfl ⟨rfl, rfl⟩ (by kernel_rfl) rfl plain (by kernel_rfl)
end tzifVersions
#print axioms tzifVersions.card
end Go.Proofs.YtkpmmabdpeobaaaGreatDoor
