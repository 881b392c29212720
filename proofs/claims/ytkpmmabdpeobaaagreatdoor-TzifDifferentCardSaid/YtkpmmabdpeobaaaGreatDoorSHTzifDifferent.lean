/- The law TzifDifferent, its walk. The law TzifDifferent returns true for every two tables by numbers, and its tied card holds; no condition beyond the row itself. -/
import Derived.Test.YtkpmmabdpeobaaaGreatDoorSV6
import Derived.Test.YtkpmmabdpeobaaaGreatDoorSU18
import Derived.Test.YtkpmmabdpeobaaaGreatDoorSU13
import Derived.Test.YtkpmmabdpeobaaaGreatDoorSU14
import Derived.Test.YtkpmmabdpeobaaaGreatDoorSU41
import Derived.Test.YtkpmmabdpeobaaaGreatDoorSV5
import Derived.Test.YtkpmmabdpeobaaaGreatDoorSU27
namespace Go.Proofs.YtkpmmabdpeobaaaGreatDoor.Px
open Go.RowKit
open Tz Tb Civ
theorem same_iff_eq {x y : Tab} : sameB x y = true ↔ x = y := by
 unfold sameB
 cases x
 cases y
 simp [and_assoc]
theorem enc4_ok {x : Tab} (h : checkE x = 0) : encE x 4 = (encB x 4, 0) := encE_ok h (by have := versT_two x; omega)
set_option maxHeartbeats 8000000 in
set_option maxRecDepth 100000 in
theorem tzifDifferent_cells (TY ST NX : List Int) (be fo ba : Int) (tv sv nv : Value) (TY' ST' NX' : List Int) (be' fo' ba' : Int) (tv' sv' nv' : Value) (W : World) (h : D40V W tv sv nv ⟨TY, ST, NX, be, fo, ba⟩) (hin : D40.In ⟨TY, ST, NX, be, fo, ba⟩) (h' : D40V W tv' sv' nv' ⟨TY', ST', NX', be', fo', ba'⟩) (hin' : D40.In ⟨TY', ST', NX', be', fo', ba'⟩) (hE : Env42 W) :
 Calls Tryz.prog 7 #[.agg #[tv, sv, nv, .int .i32 be, .int .u8 fo, .int .u8 ba], .agg #[tv', sv', nv', .int .i32 be', .int .u8 fo', .int .u8 ba']] W fun e w' => e = .returned (.bool true) ∧ Below W.heap.size W w' := by
 have CM0 := Lib.hid (fun w h => made40_any TY ST NX be fo ba tv sv nv w h hin)
 obtain ⟨da0, dc0, hdv, _, _⟩ := h.types.slice
 obtain ⟨sa0, sc0, hsv, _, _⟩ := h.steps.slice
 obtain ⟨na0, nc0, hnv, _, _⟩ := h.next.slice
 obtain ⟨DN0, hDN⟩ : ∃ n, TY.length = n := ⟨_, rfl⟩
 obtain ⟨SN0, hSN⟩ : ∃ n, ST.length = n := ⟨_, rfl⟩
 obtain ⟨NN0, hNN⟩ : ∃ n, NX.length = n := ⟨_, rfl⟩
 dsimp only at hdv hsv hnv
 rw [hDN] at hdv
 rw [hSN] at hsv
 rw [hNN] at hnv
 subst hdv hsv hnv
 have hr := made_right _ hin
 have hN41 := made_trans_len _ hin
 have hM11 := (made_sub _ hin).2
 obtain ⟨X, hX⟩ : ∃ X, D40.made ⟨TY, ST, NX, be, fo, ba⟩ = X := ⟨_, rfl⟩
 rw [hX] at CM0 hr hN41 hM11
 obtain ⟨Ss, hS⟩ : ∃ S, bs X.foot = S := ⟨_, rfl⟩
 obtain ⟨M, hM⟩ : ∃ n, X.types.length = n := ⟨_, rfl⟩
 obtain ⟨N, hN⟩ : ∃ n, X.trans.length = n := ⟨_, rfl⟩
 rw [hM] at hM11
 rw [hN] at hN41
 have HR0 := Lib.hid hr
 have HS0 := Lib.hid hS
 have HM0 := Lib.hid hM
 have HN0 := Lib.hid hN
 have hM11_0 := hM11
 have hN41_0 := hN41
 have HH0 := Lib.hid h
 clear h hin hX hr hS hM hN hDN hSN hNN hM11 hN41
 have CM1 := Lib.hid (fun w h => made40_any TY' ST' NX' be' fo' ba' tv' sv' nv' w h hin')
 obtain ⟨da1, dc1, hdv, _, _⟩ := h'.types.slice
 obtain ⟨sa1, sc1, hsv, _, _⟩ := h'.steps.slice
 obtain ⟨na1, nc1, hnv, _, _⟩ := h'.next.slice
 obtain ⟨DN1, hDN⟩ : ∃ n, TY'.length = n := ⟨_, rfl⟩
 obtain ⟨SN1, hSN⟩ : ∃ n, ST'.length = n := ⟨_, rfl⟩
 obtain ⟨NN1, hNN⟩ : ∃ n, NX'.length = n := ⟨_, rfl⟩
 dsimp only at hdv hsv hnv
 rw [hDN] at hdv
 rw [hSN] at hsv
 rw [hNN] at hnv
 subst hdv hsv hnv
 have hr := made_right _ hin'
 have hN41 := made_trans_len _ hin'
 have hM11 := (made_sub _ hin').2
 obtain ⟨Y, hX⟩ : ∃ X, D40.made ⟨TY', ST', NX', be', fo', ba'⟩ = X := ⟨_, rfl⟩
 rw [hX] at CM1 hr hN41 hM11
 obtain ⟨Ts, hS⟩ : ∃ S, bs Y.foot = S := ⟨_, rfl⟩
 obtain ⟨J, hM⟩ : ∃ n, Y.types.length = n := ⟨_, rfl⟩
 obtain ⟨L, hN⟩ : ∃ n, Y.trans.length = n := ⟨_, rfl⟩
 rw [hM] at hM11
 rw [hN] at hN41
 have HR1 := Lib.hid hr
 have HS1 := Lib.hid hS
 have HM1 := Lib.hid hM
 have HN1 := Lib.hid hN
 have hM11_1 := hM11
 have hN41_1 := hN41
 have HH1 := Lib.hid h'
 clear h' hin' hX hr hS hM hN hDN hSN hNN hM11 hN41
 have HE := Lib.hid hE
 have CW := Lib.hid (fun w hE => works42_any w hE)
 have CE := Lib.hid (fun x tv rv f v w h hE hm => encode_any x tv rv f v w h hE hm)
 have K0 := Lib.hid (((Kp.start W).alloc (.cells #[.slice da0 DN0 dc0, .slice sa0 SN0 sc0, .slice na0 NN0 nc0, .int .i32 be, .int .u8 fo, .int .u8 ba] 41)).allocAt (W.heap.size + 1) (by simp) (.cells #[.slice da1 DN1 dc1, .slice sa1 SN1 sc1, .slice na1 NN1 nc1, .int .i32 be', .int .u8 fo', .int .u8 ba'] 41))
 clear hE
 go_enter Tryz.func7, Tryz.ntmps7
 go_upto_region 1 with fail
 obtain ⟨W1, hW1⟩ : ∃ Z, (W.alloc (.cells #[.slice da0 DN0 dc0, .slice sa0 SN0 sc0, .slice na0 NN0 nc0, .int .i32 be, .int .u8 fo, .int .u8 ba] 41)).alloc (.cells #[.slice da1 DN1 dc1, .slice sa1 SN1 sc1, .slice na1 NN1 nc1, .int .i32 be', .int .u8 fo', .int .u8 ba'] 41) = Z := ⟨_, rfl⟩
 rw [hW1] at K0 ⊢
 clear hW1
 obtain ⟨z0, z1, z2, z3, z4, z5⟩ := row6d (K0.out.at 1 rfl)
 go_wp2_with fail
 refine (CM0.out _ ⟨HH0.out.types.keep K0.out.below, HH0.out.steps.keep K0.out.below, HH0.out.next.keep K0.out.below⟩).mono ?_
 rintro _ V0 ⟨tv, rv, rfl, hk, hf⟩
 obtain ⟨xa0, xc0, rfl⟩ : ∃ a c, tv = .slice a X.types.length c := own_slice (hk.row 1 rfl)
 obtain ⟨ya0, yc0, rfl⟩ : ∃ a c, rv = .slice a X.trans.length c := own_slice (hk.row 0 rfl)
 have HF0 := Lib.hid hf
 have hk := K0.out.adopt hk
 rw [HM0.out, HN0.out] at hk ⊢
 rw [HS0.out]
 clear hf CM0 K0
 go_upto_region 2 with fail
 have hk := hk.alloc (.cells #[.slice xa0 M xc0, .slice ya0 N yc0, .string Ss] 25)
 obtain ⟨X1, hX⟩ : ∃ Z, V0.alloc (.cells #[.slice xa0 M xc0, .slice ya0 N yc0, .string Ss] 25) = Z := ⟨_, rfl⟩
 obtain ⟨q0, hq⟩ : ∃ Z, V0.heap.size = Z := ⟨_, rfl⟩
 rw [hX, hq] at hk ⊢
 have K1 := Lib.hid hk
 clear hk hX hq
 clear z0 z1 z2 z3 z4 z5
 obtain ⟨z0, z1, z2, z3, z4, z5⟩ := row6d (K1.out.at 1 rfl)
 go_wp2_with fail
 refine (CM1.out _ ⟨HH1.out.types.keep K1.out.below, HH1.out.steps.keep K1.out.below, HH1.out.next.keep K1.out.below⟩).mono ?_
 rintro _ V1 ⟨tv, rv, rfl, hk, hf⟩
 obtain ⟨xa1, xc1, rfl⟩ : ∃ a c, tv = .slice a Y.types.length c := own_slice (hk.row 1 rfl)
 obtain ⟨ya1, yc1, rfl⟩ : ∃ a c, rv = .slice a Y.trans.length c := own_slice (hk.row 0 rfl)
 have HF1 := Lib.hid hf
 have hk := K1.out.adopt hk
 rw [HM1.out, HN1.out] at hk ⊢
 rw [HS1.out]
 clear hf CM1 K1
 go_upto_region 3 with fail
 have hk := hk.alloc (.cells #[.slice xa1 J xc1, .slice ya1 L yc1, .string Ts] 25)
 obtain ⟨X1, hX⟩ : ∃ Z, V1.alloc (.cells #[.slice xa1 J xc1, .slice ya1 L yc1, .string Ts] 25) = Z := ⟨_, rfl⟩
 obtain ⟨q1, hq⟩ : ∃ Z, V1.heap.size = Z := ⟨_, rfl⟩
 rw [hX, hq] at hk ⊢
 have K2 := Lib.hid hk
 clear hk hX hq
 clear z0 z1 z2 z3 z4 z5
 obtain ⟨⟨x0, x1, x2⟩, _, _, _⟩ := row3 (K2.out.at 1 rfl)
 go_wp2_with fail
 have C1 := CE.out X _ _ Ss 4 _ (tab_rows (x := X) (K2.out.row 2 rfl) (K2.out.row 3 rfl) rfl rfl HF0.out HS0.out) (HE.out.keep K2.out.below) (by rw [HN0.out]; omega)
 rw [enc4_ok HR0.out] at C1
 refine C1.mono ?_
 rintro _ w3 ⟨ov, rfl, hk⟩
 obtain ⟨ea, ec, rfl⟩ := bRow_slice (hk.row 0 rfl)
 obtain ⟨l1, hl1⟩ : ∃ l, encB X 4 = l := ⟨_, rfl⟩
 rw [hl1] at hk ⊢
 have K3 := Lib.hid (K2.out.adopt hk)
 have HL1 := Lib.hid hl1
 clear hk hl1 C1 K2 x0 x1 x2
 obtain ⟨⟨x0, x1, x2⟩, _, _, _⟩ := row3 (K3.out.at 0 rfl)
 go_wp2_with fail
 have C1 := CE.out Y _ _ Ts 4 _ (tab_rows (x := Y) (K3.out.row 1 rfl) (K3.out.row 2 rfl) rfl rfl HF1.out HS1.out) (HE.out.keep K3.out.below) (by rw [HN1.out]; omega)
 rw [enc4_ok HR1.out] at C1
 refine C1.mono ?_
 rintro _ w4 ⟨ov, rfl, hk⟩
 obtain ⟨eb, ed, rfl⟩ := bRow_slice (hk.row 0 rfl)
 obtain ⟨l2, hl2⟩ : ∃ l, encB Y 4 = l := ⟨_, rfl⟩
 rw [hl2] at hk ⊢
 have K4 := Lib.hid (K3.out.adopt hk)
 have HL2 := Lib.hid hl2
 clear hk hl2 C1 K3 x0 x1 x2
 obtain ⟨s1, hs1⟩ : ∃ s, bs l1 = s := ⟨_, rfl⟩
 obtain ⟨s2, hs2⟩ : ∃ s, bs l2 = s := ⟨_, rfl⟩
 have HSa := Lib.hid hs1
 have HSb := Lib.hid hs2
 have HQ := Lib.hid (show (s1.toList == s2.toList) = sameB X Y by
  rw [Bool.eq_iff_iff, beq_iff_eq, ← hs1, ← hs2, ByteArray.toList_eq, ByteArray.toList_eq, bs_list, bs_list, same_iff_eq, ← HL1.out, ← HL2.out]
  exact ⟨fun h => enc_inj HR0.out HR1.out (by rw [HN0.out]; omega) (by rw [HN1.out]; omega) h, fun h => by rw [h]⟩)
 obtain ⟨e2, he2⟩ : ∃ b, sameB X Y = b := ⟨_, rfl⟩
 have CS := Lib.hid (fun tv rv tv' rv' f f' w h k => same_any X Y tv rv tv' rv' f f' w h k)
 rw [he2] at HQ CS
 clear hs1 hs2 he2
 go_upto_region 5 with fail
 refine Pg.wp_region_steps (by kernel_rfl) (Pg.vS [(33, (.bool true)), (34, (.bool true)), (35, (.bool true)), (36, (.bool true)), (37, (.bool true)), (38, (.int .i64 0)), (39, (.bool true)), (40, (.bool true)), (41, (.bool true)), (42, (.int .i64 0)), (43, (.bool true)), (44, (.bool true)), (45, (.bool true)), (46, (.slice ea l1.length ec)), (47, (.string s1)), (48, (.slice eb l2.length ed)), (49, (.string s2)), (50, (.bool ((s1.toList == s2.toList)))), (51, (.agg #[.slice xa0 M xc0, .slice ya0 N yc0, .string Ss])), (52, (.agg #[.slice xa1 J xc1, .slice ya1 L yc1, .string Ts])), (53, (.bool e2)), (54, (.bool true)), (55, (.bool true)), (56, (.bool true)), (57, (.bool true)), (58, (.bool true)), (4, (.bool true))]) (by kernel_rfl) (Pg.guardsB_ok (t := [(34, true), (37, true), (41, true), (45, true), (56, true)]) (by kernel_rfl) (fun p hp => by
  simp only [List.mem_cons, List.not_mem_nil, or_false] at hp
  rcases hp with rfl | rfl | rfl | rfl | rfl <;> rfl)) (fun d w w' v h hB => Pg.vS_keep h hB) ?steps2 ?hend2
 case steps2 =>
  refine Pg.steps_cons 33 rfl ?_ ?_
  · intro T D' w hB0 hold hdep K hK0
    have hK := Lib.hid hK0
    have h6 : T[6]?.getD undef = .bool true := hold 6 rfl
    clear hold hdep hK0
    go_simp
    exact hK.out _ _ (Below.refl _ _) rfl
  refine Pg.steps_cons 34 rfl ?_ ?_
  · intro T D' w hB0 hold hdep K hK0
    have hK := Lib.hid hK0
    have q33 : T[33]?.getD undef = (.bool true) := Pg.dep hdep 0 (by kernel_rfl) rfl rfl
    clear hold hdep hK0
    go_simp
    exact hK.out _ _ (Below.refl _ _) rfl
  refine Pg.steps_cons 35 rfl ?_ ?_
  · intro T D' w hB0 hold hdep K hK0
    have hK := Lib.hid hK0
    have h8 : T[8]?.getD undef = .bool true := hold 8 rfl
    clear hold hdep hK0
    go_simp
    exact hK.out _ _ (Below.refl _ _) rfl
  refine Pg.steps_cons 36 rfl ?_ ?_
  · intro T D' w hB0 hold hdep K hK0
    have hK := Lib.hid hK0
    have q34 : T[34]?.getD undef = (.bool true) := Pg.dep hdep 1 (by kernel_rfl) rfl rfl
    have q35 : T[35]?.getD undef = (.bool true) := Pg.dep hdep 2 (by kernel_rfl) rfl rfl
    clear hold hdep hK0
    go_simp
    exact hK.out _ _ (Below.refl _ _) rfl
  refine Pg.steps_cons 37 rfl ?_ ?_
  · intro T D' w hB0 hold hdep K hK0
    have hK := Lib.hid hK0
    have q36 : T[36]?.getD undef = (.bool true) := Pg.dep hdep 3 (by kernel_rfl) rfl rfl
    clear hold hdep hK0
    go_simp
    exact hK.out _ _ (Below.refl _ _) rfl
  refine Pg.steps_cons 38 rfl ?_ ?_
  · intro T D' w hB0 hold hdep K hK0
    have hK := Lib.hid hK0
    have h10 : T[10]?.getD undef = .int .i64 0 := hold 10 rfl
    clear hold hdep hK0
    go_simp
    exact hK.out _ _ (Below.refl _ _) rfl
  refine Pg.steps_cons 39 rfl ?_ ?_
  · intro T D' w hB0 hold hdep K hK0
    have hK := Lib.hid hK0
    have q38 : T[38]?.getD undef = (.int .i64 0) := Pg.dep hdep 5 (by kernel_rfl) rfl rfl
    clear hold hdep hK0
    go_simp
    exact hK.out _ _ (Below.refl _ _) rfl
  refine Pg.steps_cons 40 rfl ?_ ?_
  · intro T D' w hB0 hold hdep K hK0
    have hK := Lib.hid hK0
    have q37 : T[37]?.getD undef = (.bool true) := Pg.dep hdep 4 (by kernel_rfl) rfl rfl
    have q39 : T[39]?.getD undef = (.bool true) := Pg.dep hdep 6 (by kernel_rfl) rfl rfl
    clear hold hdep hK0
    go_simp
    exact hK.out _ _ (Below.refl _ _) rfl
  refine Pg.steps_cons 41 rfl ?_ ?_
  · intro T D' w hB0 hold hdep K hK0
    have hK := Lib.hid hK0
    have q40 : T[40]?.getD undef = (.bool true) := Pg.dep hdep 7 (by kernel_rfl) rfl rfl
    clear hold hdep hK0
    go_simp
    exact hK.out _ _ (Below.refl _ _) rfl
  refine Pg.steps_cons 42 rfl ?_ ?_
  · intro T D' w hB0 hold hdep K hK0
    have hK := Lib.hid hK0
    have h12 : T[12]?.getD undef = .int .i64 0 := hold 12 rfl
    clear hold hdep hK0
    go_simp
    exact hK.out _ _ (Below.refl _ _) rfl
  refine Pg.steps_cons 43 rfl ?_ ?_
  · intro T D' w hB0 hold hdep K hK0
    have hK := Lib.hid hK0
    have q42 : T[42]?.getD undef = (.int .i64 0) := Pg.dep hdep 9 (by kernel_rfl) rfl rfl
    clear hold hdep hK0
    go_simp
    exact hK.out _ _ (Below.refl _ _) rfl
  refine Pg.steps_cons 44 rfl ?_ ?_
  · intro T D' w hB0 hold hdep K hK0
    have hK := Lib.hid hK0
    have q41 : T[41]?.getD undef = (.bool true) := Pg.dep hdep 8 (by kernel_rfl) rfl rfl
    have q43 : T[43]?.getD undef = (.bool true) := Pg.dep hdep 10 (by kernel_rfl) rfl rfl
    clear hold hdep hK0
    go_simp
    exact hK.out _ _ (Below.refl _ _) rfl
  refine Pg.steps_cons 45 rfl ?_ ?_
  · intro T D' w hB0 hold hdep K hK0
    have hK := Lib.hid hK0
    have q44 : T[44]?.getD undef = (.bool true) := Pg.dep hdep 11 (by kernel_rfl) rfl rfl
    clear hold hdep hK0
    go_simp
    exact hK.out _ _ (Below.refl _ _) rfl
  refine Pg.steps_cons 46 rfl ?_ ?_
  · intro T D' w hB0 hold hdep K hK0
    have hK := Lib.hid hK0
    have h9 : T[9]?.getD undef = .slice ea l1.length ec := hold 9 rfl
    clear hold hdep hK0
    go_simp
    exact hK.out _ _ (Below.refl _ _) rfl
  refine Pg.steps_cons 47 rfl ?_ ?_
  · intro T D' w hB0 hold hdep K hK0
    have hK := Lib.hid hK0
    have q46 : T[46]?.getD undef = (.slice ea l1.length ec) := Pg.dep hdep 13 (by kernel_rfl) rfl rfl
    have hk := K4.out.keep hB0
    have cv := conv_bytes (BytesV.own (hk.row 1 rfl) rfl)
    rw [HSa.out] at cv
    dsimp only [bRow] at cv
    clear hk
    clear hold hdep hK0
    go_simp
    exact hK.out _ _ (Below.refl _ _) rfl
  refine Pg.steps_cons 48 rfl ?_ ?_
  · intro T D' w hB0 hold hdep K hK0
    have hK := Lib.hid hK0
    have h11 : T[11]?.getD undef = .slice eb l2.length ed := hold 11 rfl
    clear hold hdep hK0
    go_simp
    exact hK.out _ _ (Below.refl _ _) rfl
  refine Pg.steps_cons 49 rfl ?_ ?_
  · intro T D' w hB0 hold hdep K hK0
    have hK := Lib.hid hK0
    have q48 : T[48]?.getD undef = (.slice eb l2.length ed) := Pg.dep hdep 15 (by kernel_rfl) rfl rfl
    have hk := K4.out.keep hB0
    have cv := conv_bytes (BytesV.own (hk.row 0 rfl) rfl)
    rw [HSb.out] at cv
    dsimp only [bRow] at cv
    clear hk
    clear hold hdep hK0
    go_simp
    exact hK.out _ _ (Below.refl _ _) rfl
  refine Pg.steps_cons 50 rfl ?_ ?_
  · intro T D' w hB0 hold hdep K hK0
    have hK := Lib.hid hK0
    have q47 : T[47]?.getD undef = (.string s1) := Pg.dep hdep 14 (by kernel_rfl) rfl rfl
    have q49 : T[49]?.getD undef = (.string s2) := Pg.dep hdep 16 (by kernel_rfl) rfl rfl
    clear hold hdep hK0
    go_simp
    exact hK.out _ _ (Below.refl _ _) rfl
  refine Pg.steps_cons 51 rfl ?_ ?_
  · intro T D' w hB0 hold hdep K hK0
    have hK := Lib.hid hK0
    have h5 : T[5]?.getD undef = .pointer (some ⟨q0, 0, none⟩) := hold 5 rfl
    have hk := K4.out.keep hB0
    obtain ⟨⟨x0, x1, x2⟩, _, _, _⟩ := row3 (hk.at 1 rfl)
    clear hk
    clear hold hdep hK0
    go_simp
    exact hK.out _ _ (Below.refl _ _) rfl
  refine Pg.steps_cons 52 rfl ?_ ?_
  · intro T D' w hB0 hold hdep K hK0
    have hK := Lib.hid hK0
    have h7 : T[7]?.getD undef = .pointer (some ⟨q1, 0, none⟩) := hold 7 rfl
    have hk := K4.out.keep hB0
    obtain ⟨⟨x0, x1, x2⟩, _, _, _⟩ := row3 (hk.at 0 rfl)
    clear hk
    clear hold hdep hK0
    go_simp
    exact hK.out _ _ (Below.refl _ _) rfl
  refine Pg.steps_cons 53 rfl ?_ ?_
  · intro T D' w hB0 hold hdep K hK0
    have hK := Lib.hid hK0
    have q51 : T[51]?.getD undef = (.agg #[.slice xa0 M xc0, .slice ya0 N yc0, .string Ss]) := Pg.dep hdep 18 (by kernel_rfl) rfl rfl
    have q52 : T[52]?.getD undef = (.agg #[.slice xa1 J xc1, .slice ya1 L yc1, .string Ts]) := Pg.dep hdep 19 (by kernel_rfl) rfl rfl
    have HC := Lib.hid (CS.out _ _ _ _ _ _ w (tab_rows (x := X) ((K4.out.keep hB0).row 4 rfl) ((K4.out.keep hB0).row 5 rfl) rfl rfl HF0.out HS0.out) (tab_rows (x := Y) ((K4.out.keep hB0).row 2 rfl) ((K4.out.keep hB0).row 3 rfl) rfl rfl HF1.out HS1.out))
    clear hold hdep hK0
    go_simp
    refine HC.out.mono ?_
    rintro _ V ⟨rfl, hb⟩
    exact hK.out _ _ hb rfl
  refine Pg.steps_cons 54 rfl ?_ ?_
  · intro T D' w hB0 hold hdep K hK0
    have hK := Lib.hid hK0
    have q50 : T[50]?.getD undef = (.bool ((s1.toList == s2.toList))) := Pg.dep hdep 17 (by kernel_rfl) rfl rfl
    have q53 : T[53]?.getD undef = (.bool e2) := Pg.dep hdep 20 (by kernel_rfl) rfl rfl
    have e : ((s1.toList == s2.toList) == e2) = true := by rw [HQ.out]; exact beq_self_eq_true _
    clear hold hdep hK0
    go_simp
    exact hK.out _ _ (Below.refl _ _) rfl
  refine Pg.steps_cons 55 rfl ?_ ?_
  · intro T D' w hB0 hold hdep K hK0
    have hK := Lib.hid hK0
    have q45 : T[45]?.getD undef = (.bool true) := Pg.dep hdep 12 (by kernel_rfl) rfl rfl
    have q54 : T[54]?.getD undef = (.bool true) := Pg.dep hdep 21 (by kernel_rfl) rfl rfl
    clear hold hdep hK0
    go_simp
    exact hK.out _ _ (Below.refl _ _) rfl
  refine Pg.steps_cons 56 rfl ?_ ?_
  · intro T D' w hB0 hold hdep K hK0
    have hK := Lib.hid hK0
    have q55 : T[55]?.getD undef = (.bool true) := Pg.dep hdep 22 (by kernel_rfl) rfl rfl
    clear hold hdep hK0
    go_simp
    exact hK.out _ _ (Below.refl _ _) rfl
  refine Pg.steps_cons 57 rfl ?_ ?_
  · intro T D' w hB0 hold hdep K hK0
    have hK := Lib.hid hK0
    have HC := Lib.hid (CW.out w (HE.out.keep (K4.out.keep hB0).below))
    clear hold hdep hK0
    go_simp
    refine HC.out.mono ?_
    rintro _ V ⟨rfl, hb⟩
    exact hK.out _ _ hb rfl
  refine Pg.steps_cons 58 rfl ?_ ?_
  · intro T D' w hB0 hold hdep K hK0
    have hK := Lib.hid hK0
    have q56 : T[56]?.getD undef = (.bool true) := Pg.dep hdep 23 (by kernel_rfl) rfl rfl
    have q57 : T[57]?.getD undef = (.bool true) := Pg.dep hdep 24 (by kernel_rfl) rfl rfl
    clear hold hdep hK0
    go_simp
    exact hK.out _ _ (Below.refl _ _) rfl
  refine Pg.steps_cons 4 rfl ?_ ?_
  · intro T D' w hB0 hold hdep K hK0
    have hK := Lib.hid hK0
    have q58 : T[58]?.getD undef = (.bool true) := Pg.dep hdep 25 (by kernel_rfl) rfl rfl
    clear hold hdep hK0
    go_simp
    exact hK.out _ _ (Below.refl _ _) rfl
  exact Pg.steps_nil
 case hend2 =>
  intro T' w hsz hB0 hold hS
  have e2' : T'[4]?.getD undef = .bool true := hS 4 (by rfl)
  have K10 := Lib.hid (K4.out.keep hB0)
  obtain ⟨G2, hG2⟩ : ∃ G : Nat → Value, ∀ t, T'[t]?.getD undef = G t := ⟨_, fun _ => rfl⟩
  have e := Pg.tmps_lit T' 59 hsz
  simp only [hG2] at e
  have e' : T' = #[G2 0, G2 1, G2 2, G2 3, G2 4, G2 5, G2 6, G2 7, G2 8, G2 9, G2 10, G2 11, G2 12, G2 13, G2 14, G2 15, G2 16, G2 17, G2 18, G2 19, G2 20, G2 21, G2 22, G2 23, G2 24, G2 25, G2 26, G2 27, G2 28, G2 29, G2 30, G2 31, G2 32, G2 33, G2 34, G2 35, G2 36, G2 37, G2 38, G2 39, G2 40, G2 41, G2 42, G2 43, G2 44, G2 45, G2 46, G2 47, G2 48, G2 49, G2 50, G2 51, G2 52, G2 53, G2 54, G2 55, G2 56, G2 57, G2 58] := e
  rw [hG2] at e2'
  clear hold hS e hG2 hsz hB0
  rw [e', e2']
  clear e' e2'
  go_wp2_with fail
  go_ret
  exact ⟨rfl, K10.out.below⟩
end Go.Proofs.YtkpmmabdpeobaaaGreatDoor.Px
namespace Go.Proofs.YtkpmmabdpeobaaaGreatDoor.Px
open Go.RowKit
open Civ Tb
theorem tzifDifferent_walk (x : D40) (tv sv nv : Value) {W : World} (h : D40V W tv sv nv x) (hin : D40.In x) (y : D40) (tv' sv' nv' : Value) (h' : D40V W tv' sv' nv' y) (hin' : D40.In y) (hE : EnvAt W) (hm : ∃ m, W.cell? ⟨1, 0, none⟩ = some (.int .i64 m)) :
 Calls Tryz.prog 7 #[d40val x tv sv nv, d40val y tv' sv' nv'] W fun e w' => e = .returned (.bool true) ∧ Below W.heap.size W w' := by
 obtain ⟨TY, ST, NX, be, fo, ba⟩ := x
 obtain ⟨TY', ST', NX', be', fo', ba'⟩ := y
 exact tzifDifferent_cells TY ST NX be fo ba tv sv nv TY' ST' NX' be' fo' ba' tv' sv' nv' W h hin h' hin' ⟨hE, hm⟩
end Go.Proofs.YtkpmmabdpeobaaaGreatDoor.Px
namespace Go.Proofs.YtkpmmabdpeobaaaGreatDoor
open Go.ChangeShapes Go.WideShapes Go.ChangeAt Go.RowKit
open Go.ChangeMaps (open_string)
namespace tzifDifferent
theorem own : ownKnob Tryz.prog.godebug = none := by kernel_rfl
set_option maxRecDepth 100000 in
theorem lifted (os : Os) (started : os.Started) (H : Type) (enc : TypeId × Value → H) :
 ReturnsInHanded {} Tryz.checked os 7 .any (fun w args => (Rows.tzifDifferentSpec.pre enc Tryz.prog Tryz.f7 Rows.tzifDifferentRow.domain false w args ∧ laidMetH Tryz.prog Rows.tzifDifferentRow.laid w) ∧ sizedMet enc Tryz.prog Tryz.f7 (OpenSpec.ofChange Rows.tzifDifferentSpec) false w args)
  (Rows.tzifDifferentSpec.post enc Tryz.prog Tryz.f7 false true false false) := by
 refine handed_both (X := fun w _ => laidMetH Tryz.prog Rows.tzifDifferentRow.laid w) (fun _ _ _ hh h => h.of_heap hh) own started (by kernel_rfl) Tryz.func7
  (ChangeSpec.witness_shaped (enc := enc) (C := Tryz.checked) (os := os) (X := fun w _ => laidMetH Tryz.prog Rows.tzifDifferentRow.laid w) false ((World.doorLaid Tryz.prog 4000 os).layVars Tryz.prog [("unicode/utf8.first", Rows.laid_unicode_utf8_first)]) #[.agg #[.slice none 0 0, .slice none 0 0, .slice none 0 0, .int .i32 0, .int .u8 0, .int .u8 0], .agg #[.slice none 0 0, .slice none 0 0, .slice none 0 0, .int .i32 0, .int .u8 0, .int .u8 0]] 8 (door_os os)
   (World.shaped_of_ZipB (by kernel_rfl) (by kernel_rfl)) (by kernel_rfl) (by kernel_rfl) (by kernel_rfl) (door_met os _)) ?_
 intro W base args ds gs before hval0 hW hSh _ hL
 have hMx := maxLen_cell hSh
 have hval : ∀ (j : Nat) t v, Tryz.f7.params[j]? = some t → args[j]? = some v → Value.okWide Tryz.prog W .any base t v := hval0
 have hEnv : Px.EnvAt W := Px.env_of hL
 have hW' := hW
 obtain ⟨p, q, hA0, hV, rfl, _, _⟩ := hW
 have hA : DataW.TrodAll enc Tryz.prog W 0 (fun _ => true) true Tryz.f7.params.toList args.toList ds p := hA0
 rw [Tryz.params7] at hA hval
 obtain ⟨v0, vs0, d0, ds0, p0, q0, hargs, rfl, rfl, h0, r0⟩ := trodAll_cons hA
 obtain ⟨v1, vs1, d1, ds1, p1, q1, rfl, rfl, rfl, h1, r1⟩ := trodAll_cons r0
 obtain ⟨rfl, rfl, rfl⟩ := trodAll_nil r1
 obtain rfl : args = #[v0, v1] := by cases args; simp_all
 obtain ⟨rfl, rfl⟩ := trodVars_none hV
 obtain ⟨x0, tv0, sv0, nv0, rfl, hx0, hd0⟩ := Px.open_d40 (hval 0 41 v0 rfl rfl) h0
 obtain ⟨x1, tv1, sv1, nv1, rfl, hx1, hd1⟩ := Px.open_d40 (hval 1 41 v1 rfl rfl) h1
 refine (Px.tzifDifferent_walk x0 tv0 sv0 nv0 hx0 hd0 x1 tv1 sv1 nv1 hx1 hd1 hEnv hMx).mono fun e W' ⟨he, hB⟩ => ?_
 subst he
 refine ⟨_, rfl, post_law (by kernel_rfl) ?_ rfl hW' rfl rfl Tryz.underlying4 hB⟩
 rw [Tryz.params7]
 intro t ht
 have hall : ([41, 41].all fun u => Tryz.prog.readableRec u && decide (u < Tryz.prog.types.size)) = true := by kernel_rfl
 have h1 := List.all_eq_true.1 hall t ht
 have h2 : Tryz.prog.readableRec t = true ∧ t < Tryz.prog.types.size := by simpa using h1
 exact h2
set_option maxHeartbeats 8000000 in
theorem facts : joinedFacts Tryz.pinned.checked.prog 7 Tryz.f7 Rows.tzifDifferentSpec Rows.tzifDifferentRow = true := by
 simp only [joinedFacts, Bool.and_eq_true]
 and_intros
 all_goals (as_aux_lemma => kernel_rfl)
theorem named : Tryz.pinned.checked.prog.funcNamed Rows.tzifDifferentRow.func = some 7 := by kernel_rfl
theorem said : Rows.TzifDifferentSaid :=
 OpenClaim.holds_of_wide 7 Tryz.f7 rfl rfl rfl rfl rfl rfl rfl ⟨rfl, rfl, rfl, rfl, rfl⟩ rfl rfl rfl rfl rfl named Tryz.func7 facts
  (of_decide_eq_true (by kernel_rfl)) (by unfold Func.isWrapper; first | (rw [if_pos (by decide +kernel)]; kernel_rfl) | (rw [if_neg (by decide +kernel)]; exact ⟨rfl, rfl⟩))
  (fun os started H enc _ => lifted os started H enc)
theorem plain (f : FuncId) (fn : Func) (hf : Tryz.pinned.checked.prog.funcNamed "analemma/analemmalaw42.TzifDifferent" = some f) (hfn : Tryz.pinned.checked.prog.funcs[f]? = some fn) :
 true = Tryz.pinned.checked.prog.looks [] ∧ ∀ (j : Nat) t, fn.params[j]? = some t → Tryz.pinned.checked.prog.wantsStandIn t = false := by
 obtain rfl : f = 7 := Option.some.inj ((show Tryz.prog.funcNamed "analemma/analemmalaw42.TzifDifferent" = some 7 by kernel_rfl).symm.trans hf) |>.symm
 obtain rfl : fn = Tryz.f7 := (Option.some.inj (Tryz.func7.symm.trans hfn)).symm
 refine ⟨by kernel_rfl, fun j t ht => ?_⟩
 rw [Tryz.params7] at ht
 have hm : t ∈ [41, 41] := by simpa using Array.mem_of_getElem? ht
 have hall : ([41, 41].all fun u => !Tryz.prog.wantsStandIn u) = true := by kernel_rfl
 exact (show Tryz.prog.wantsStandIn t = false by simpa using List.all_eq_true.1 hall t hm)
theorem card : Rows.TzifDifferentCardSaid :=
 Claim7.holds_tied_plain_at .later [] _ _ _ _ said (fun _ h => by cases h) (by kernel_rfl) (fun _ h => by cases h) tzifDifferent_row_tie rfl ⟨rfl, rfl⟩ (by kernel_rfl) rfl plain (by kernel_rfl)
end tzifDifferent
#print axioms tzifDifferent.card
end Go.Proofs.YtkpmmabdpeobaaaGreatDoor
