/- The law TableSpoilt: the walk. The law TableSpoilt returns true for every table by numbers and every two numbers, and its tied card holds; no condition beyond the row itself. -/
import Derived.Test.YtlaplgaccjmbhaaGreatDoorSG28
import Derived.Test.YtlaplgaccjmbhaaGreatDoorSG30
import Derived.Test.YtlaplgaccjmbhaaGreatDoorSG27
import Derived.Test.YtlaplgaccjmbhaaGreatDoorSG13
import Derived.Test.YtlaplgaccjmbhaaGreatDoorSG14
namespace Go.Proofs.YtlaplgaccjmbhaaGreatDoor.Px
open Go.RowKit
open Civ Tb
theorem set_last (zs : List Tr) (z : Tr) (t : Int) : ((zs ++ [z]).flatMap Tr.cells).set (zs.length * 2) (.int .i64 t) = (zs ++ [Tr.mk t z.ty]).flatMap Tr.cells := by
  rw [List.flatMap_append, List.flatMap_append, List.set_append_right _ _ (by rw [tr_len]; exact Nat.le_refl _), tr_len, Nat.sub_self]
  rfl
theorem mem_swap {α : Type} {a b : List α} {x y : α} {P : α → Prop} (h : ∀ l ∈ a ++ x :: b, P l) (hy : P y) : ∀ l ∈ a ++ y :: b, P l := by
  intro l hl
  rcases List.mem_append.1 hl with hl | hl
  · exact h l (List.mem_append_left _ hl)
  · rcases List.mem_cons.1 hl with rfl | hl
    · exact hy
    · exact h l (List.mem_append_right _ (List.mem_cons_of_mem _ hl))
theorem textP_bad {x : Tab} {E : Int} (h : checkE x = E) (hE : E ≠ 0) : textP x = ([], E) := by unfold textP; rw [if_neg (by rw [h]; exact hE), h]
theorem infoU32 : (Tryz.prog.info? 55).map (fun i => (i.zero, i.size, i.bytes)) = some (some (.int .u32 0), 1, 4) := by kernel_rfl
theorem infoU16 : (Tryz.prog.info? 77).map (fun i => (i.zero, i.size, i.bytes)) = some (some (.int .u16 0), 1, 2) := by kernel_rfl
set_option maxHeartbeats 16000000 in
set_option maxRecDepth 100000 in
theorem tableSpoilt_cells (TY ST NX : List Int) (be fo ba : Int) (tv sv nv : Value) (what far : Int) (W : World) (h : D40V W tv sv nv ⟨TY, ST, NX, be, fo, ba⟩) (hin : D40.In ⟨TY, ST, NX, be, fo, ba⟩) (hnT : ∀ c, tv = .slice none TY.length c → c = 0) (hnS : ∀ c, sv = .slice none ST.length c → c = 0)
    (hlT : TY.length * 2 ≤ 140737488351232) (hlS : ST.length * 4 ≤ 140737488351232) (a0 : 0 ≤ what) (a1 : what ≤ 255) (l0 : 0 ≤ far) (l1 : far ≤ 4294967295) (hE : EnvAt W) :
    Calls Tryz.prog 11 #[.agg #[tv, sv, nv, .int .i32 be, .int .u8 fo, .int .u8 ba], .int .u8 what, .int .u32 far] W fun e w' => e = .returned (.bool true) ∧ Below W.heap.size W w' := by
  have hmin : D40.In ⟨200 :: 400 :: TY, 5 :: 5 :: 5 :: ST, [1, 2, 1], be, fo, ba⟩ := more_in hin
  have CM := Lib.hid (fun tv sv nv w h => made40_any (200 :: 400 :: TY) (5 :: 5 :: 5 :: ST) [1, 2, 1] be fo ba tv sv nv w h hmin)
  have CW := Lib.hid (fun w hE => works40_any w hE)
  obtain ⟨ta, tc, htv, _, _⟩ := h.types.slice
  obtain ⟨sa, sc, hsv, _, _⟩ := h.steps.slice
  obtain ⟨na, nc, hnv, _, _⟩ := h.next.slice
  obtain ⟨TN, hTN⟩ : ∃ n, TY.length = n := ⟨_, rfl⟩
  obtain ⟨SN, hSN⟩ : ∃ n, ST.length = n := ⟨_, rfl⟩
  obtain ⟨NN, hNN⟩ : ∃ n, NX.length = n := ⟨_, rfl⟩
  dsimp only at htv hsv hnv
  rw [hTN] at htv hnT hlT
  rw [hSN] at hsv hnS hlS
  rw [hNN] at hnv
  subst htv hsv hnv
  obtain ⟨DD, hD⟩ : ∃ D, D40.more ⟨TY, ST, NX, be, fo, ba⟩ = D := ⟨_, rfl⟩
  have hr := made_right _ hmin
  have hN41 := made_trans_len _ hmin
  have hM11 := (made_sub _ hmin).2
  have h7 := made_seven _ hmin
  have hfi := (made_fine _ hmin).types
  have hsh := more_shape ⟨TY, ST, NX, be, fo, ba⟩
  rw [show (⟨200 :: 400 :: TY, 5 :: 5 :: 5 :: ST, [1, 2, 1], be, fo, ba⟩ : D40) = DD from hD] at CM hr hN41 hM11 h7 hfi
  rw [hD] at hsh
  obtain ⟨X, hX⟩ : ∃ X, DD.made = X := ⟨_, rfl⟩
  rw [hX] at CM hr hN41 hM11 h7 hsh hfi
  obtain ⟨k0, k1, k2, kr, t0, t1, t2, ts, hsh1, hsh2⟩ := hsh
  obtain ⟨S, hS⟩ : ∃ S, X.foot = S := ⟨_, rfl⟩
  obtain ⟨M, hM⟩ : ∃ n, X.types.length = n := ⟨_, rfl⟩
  obtain ⟨N, hN⟩ : ∃ n, X.trans.length = n := ⟨_, rfl⟩
  have hM3 : 3 ≤ M ∧ M ≤ 11 := by rw [← hM]; exact ⟨by rw [hsh1]; simp, hM11⟩
  have hN3 : 3 ≤ N ∧ N ≤ 41 := by rw [← hN]; exact ⟨by rw [hsh2]; simp, hN41⟩
  obtain ⟨hM3, hM4⟩ := hM3
  obtain ⟨hN3, hN4⟩ := hN3
  have HR := Lib.hid hr
  have HS := Lib.hid hS
  have HM := Lib.hid hM
  have HN := Lib.hid hN
  have HH := Lib.hid h
  have HE := Lib.hid hE
  have H7 := Lib.hid h7
  have HFi := Lib.hid hfi
  obtain ⟨i0, hi, hz0, hz1, hz2⟩ := info_parts infoLc
  have HSh1 := Lib.hid hsh1
  have HSh2 := Lib.hid hsh2
  have m1 : ¬ (M : Int) < 3 := by omega
  have m2 : ¬ (N : Int) < 3 := by omega
  have K0 := Lib.hid ((Kp.start W).alloc (.cells #[.slice ta TN tc, .slice sa SN sc, .slice na NN nc, .int .i32 be, .int .u8 fo, .int .u8 ba] 75))
  have K1 := Lib.hid ((K0.out.allocAt (W.heap.size + 1) (by simp) (.cells #[.int .u32 5, .int .u32 5, .int .u32 5] 55)).own_block 1 3 3 (by omega) (by unfold maxLen; omega) rfl)
  obtain ⟨v1, w1, hr1, hk1⟩ := append_ints Tryz.underlying73 infoU32 (by omega) K1.out ST (.slice sa SN sc) (HH.out.steps.keep K1.out.below) (fun c e => hnS c (by rw [hSN] at e; exact e)) (by rw [hSN]; omega)
  rw [hSN] at hk1
  obtain ⟨s1, c1, rfl⟩ : ∃ a c, v1 = .slice a (3 + SN) c := own_slice (hk1.row 0 rfl)
  have K2 := Lib.hid (hk1.set 0 rfl 1 (.slice s1 (3 + SN) c1) rfl)
  have K3 := Lib.hid ((K2.out.allocAt w1.heap.size (by simp) (.cells #[.int .u16 200, .int .u16 400] 77)).own_block 1 2 2 (by omega) (by unfold maxLen; omega) rfl)
  obtain ⟨v2, w2, hr2, hk2⟩ := append_ints Tryz.underlying38 infoU16 (by omega) K3.out TY (.slice ta TN tc) (HH.out.types.keep K3.out.below) (fun c e => hnT c (by rw [hTN] at e; exact e)) (by rw [hTN]; omega)
  rw [hTN] at hk2
  obtain ⟨s2, c2, rfl⟩ : ∃ a c, v2 = .slice a (2 + TN) c := own_slice (hk2.row 0 rfl)
  have K5 := Lib.hid ((((hk2.set 0 rfl 0 (.slice s2 (2 + TN) c2) rfl).set 0 rfl 2 (.slice (some ⟨w2.heap.size, 0, none⟩) 3 3) rfl).allocAt w2.heap.size (by simp) (.cells #[.int .u8 1, .int .u8 2, .int .u8 1] 5)).own_block 1 3 3 (by omega) (by unfold maxLen; omega) rfl)
  have HR1 := Lib.hid hr1
  have HR2 := Lib.hid hr2
  have hb1 := hk1.below.size
  have hb2 := hk2.below.size
  have b0 := cells_at (hk1.at 0 rfl) 1
  have e0 := free_at (hk1.at 0 rfl) 1
  have zz1 := hk1.lt 0 rfl
  have b1 := cells_at (K2.out.at 0 rfl) 0
  have e1 := free_at (K2.out.at 0 rfl) 0
  have b2 := cells_at (hk2.at 0 rfl) 0
  have e2 := free_at (hk2.at 0 rfl) 0
  have b3 := cells_at (hk2.at 0 rfl) 2
  have e3 := free_at (hk2.at 0 rfl) 2
  have zz2 := hk2.lt 0 rfl
  have HD5 := Lib.hid (show D40V _ (.slice s2 (2 + TN) c2) (.slice s1 (3 + SN) c1) (.slice (some ⟨w2.heap.size, 0, none⟩) 3 3) ⟨200 :: 400 :: TY, 5 :: 5 :: 5 :: ST, [1, 2, 1], be, fo, ba⟩ from ⟨IsV.own (K5.out.row 1 rfl) (show 2 + TN = (200 :: 400 :: TY).length by rw [List.length_cons, List.length_cons, hTN]; omega), IsV.own (K5.out.row 2 rfl) (show 3 + SN = (5 :: 5 :: 5 :: ST).length by rw [List.length_cons, List.length_cons, List.length_cons, hSN]; omega), IsV.own (K5.out.row 0 rfl) rfl⟩)
  rw [show (⟨200 :: 400 :: TY, 5 :: 5 :: 5 :: ST, [1, 2, 1], be, fo, ba⟩ : D40) = DD from hD] at HD5
  clear h hE hin hmin hD hr hX hN41 hM11 h7 hfi hsh1 hsh2 hS hM hN hTN hSN hNN hr1 hr2 hk1 hk2 hnT hnS
  go_enter Tryz.func11, Tryz.ntmps11
  go_upto_region 3 with (first
    | (at_builtin; refine wpList_append_eq rfl _ _ 73 rfl _ _ (.slice s1 (3 + SN) c1) w1 rfl rfl HR1.out ?_)
    | (at_builtin; refine wpList_append_eq rfl _ _ 38 rfl _ _ (.slice s2 (2 + TN) c2) w2 rfl rfl HR2.out ?_))
  obtain ⟨x0, x1, x2, x3, x4, x5⟩ := row6 (K5.out.at 0 rfl)
  clear b0 e0 zz1 b1 e1 b2 e2 b3 e3 zz2
  go_wp2_with fail
  refine (CM.out _ _ _ _ HD5.out).mono ?_
  rintro _ V ⟨tv, rv, rfl, hk, hf⟩
  have hk1 := (K5.out.less (List.nil_sublist _)).adopt hk
  obtain ⟨xa, xc, rfl⟩ : ∃ a c, tv = .slice a X.types.length c := own_slice (hk1.row 1 rfl)
  obtain ⟨ya, yc, rfl⟩ : ∃ a c, rv = .slice a X.trans.length c := own_slice (hk1.row 0 rfl)
  obtain ⟨g, hg, -, -, -, hgl⟩ := own_some (hk1.row 1 rfl) (show 0 < X.types.length by rw [HM.out]; omega)
  obtain ⟨q, hq, -, -, -, hql⟩ := own_some (hk1.row 0 rfl) (show 0 < X.trans.length by rw [HN.out]; omega)
  obtain rfl : xa = some ⟨g, 0, none⟩ := hg
  obtain rfl : ya = some ⟨q, 0, none⟩ := hq
  rw [HM.out, HN.out] at hk1 ⊢
  rw [HS.out]
  have K6 := Lib.hid (hk1.alloc (.cells #[.slice (some ⟨g, 0, none⟩) M xc, .slice (some ⟨q, 0, none⟩) N yc, .string (bs S)] 25))
  have HF := Lib.hid hf
  clear hk hk1 hf hgl hql x0 x1 x2 x3 x4 x5 K0 K1 K2 K3 K5 HD5 HR1 HR2 hb1 hb2
  obtain ⟨⟨x0, x1, x2⟩, _, _, _⟩ := row3 (K6.out.at 0 rfl)
  go_upto_region 9 with fail
  clear x0 x1 x2
  obtain ⟨wz, hwz⟩ : ∃ z, V.alloc (.cells #[.slice (some ⟨g, 0, none⟩) M xc, .slice (some ⟨q, 0, none⟩) N yc, .string (bs S)] 25) = z := ⟨_, rfl⟩
  rw [hwz] at K6 ⊢
  have K7 := Lib.hid (show Kp [(V.heap.size, .cells #[.slice (some ⟨g, 0, none⟩) M xc, .slice (some ⟨q, 0, none⟩) N yc, .string (bs S)] 25 (0, 0))] [⟨.slice (some ⟨q, 0, none⟩) N yc, 59, 2, X.trans.length, X.trans.flatMap Tr.cells⟩, ⟨.slice (some ⟨g, 0, none⟩) M xc, 28, 3, X.types.length, X.types.flatMap Lc.cells⟩] W wz from K6.out.pick (List.Sublist.cons_cons _ (List.nil_sublist _)))
  clear hwz K6
  obtain ⟨⟨x0, x1, x2⟩, xf0, xf1, xf2⟩ := row3 (K7.out.at 0 rfl)
  have zx := K7.out.lt 0 rfl
  have zg := ((K7.out.row 1 rfl).lt g rfl).2
  have zq := ((K7.out.row 0 rfl).lt q rfl).2
  obtain ⟨ht0, hr0, _⟩ := check_zero HR.out
  have hMp : 0 < X.types.length := by rw [HM.out]; omega
  have hNp : 0 < X.trans.length := by rw [HN.out]; omega
  have hw : what % 12 = 0 ∨ what % 12 = 1 ∨ what % 12 = 2 ∨ what % 12 = 3 ∨ what % 12 = 4 ∨ what % 12 = 5 ∨ what % 12 = 6 ∨ what % 12 = 7 ∨ what % 12 = 8 ∨ what % 12 = 9 ∨ what % 12 = 10 ∨ what % 12 = 11 := by omega
  have HT0 := Lib.hid ht0
  have HR0 := Lib.hid hr0
  clear ht0 hr0
  rcases hw with e | e | e | e | e | e | e | e | e | e | e | e
  · have KP := Lib.hid (K7.out.set 0 rfl 0 (.slice none 0 0) rfl)
    have hchk : checkE ⟨[], X.trans, S⟩ = 4 := check_types_is (by decide) (by decide)
    have TB := Lib.hid (show TabV (wz.setCell ⟨V.heap.size, 0, none⟩ (.slice none 0 0)) (.slice none 0 0) (.slice (some ⟨q, 0, none⟩) N yc) (bs S) ⟨[], X.trans, S⟩ from ⟨LcV.nil _, TrV.own (KP.out.row 0 rfl) rfl, rfl, (fun _ h => by cases h), HF.out.trs⟩)
    have CT := Lib.hid (fun w h hE => ttext_any ⟨[], X.trans, S⟩ (.slice none 0 0) (.slice (some ⟨q, 0, none⟩) N yc) (bs S) w h hE (by have := HN.out; dsimp only; omega))
    rw [textP_bad hchk (by decide)] at CT
    dsimp only at CT
    rw [show bs ([] : List UInt8) = (⟨#[]⟩ : ByteArray) from rfl] at CT
    have CC := Lib.hid (fun w h hE => tcheck_any ⟨[], X.trans, S⟩ (.slice none 0 0) (.slice (some ⟨q, 0, none⟩) N yc) (bs S) w h hE)
    rw [hchk] at CC
    clear hchk
    obtain ⟨⟨x0, x1, x2⟩, _, _, _⟩ := row3 (KP.out.at 0 rfl)
    go_wp2_with fail
    refine (CT.out _ TB.out (HE.out.keep KP.out.below)).mono ?_
    rintro _ V5 ⟨rfl, hb⟩
    have KX := Lib.hid (KP.out.keep hb)
    have TBX := Lib.hid (TB.out.keep hb)
    clear hb x0 x1 x2
    obtain ⟨⟨x0, x1, x2⟩, _, _, _⟩ := row3 (KX.out.at 0 rfl)
    go_wp2_with fail
    refine (CC.out _ TBX.out (HE.out.keep KX.out.below)).mono ?_
    rintro _ V6 ⟨rfl, hb⟩
    have KY := Lib.hid (KX.out.keep hb)
    clear hb x0 x1 x2
    go_wp2_with fail
    refine (CW.out _ (HE.out.keep KY.out.below)).mono ?_
    rintro _ V7 ⟨rfl, hb⟩
    have KZ := Lib.hid (KY.out.keep hb)
    clear hb
    go_wp2_with fail
    go_ret
    exact ⟨rfl, KZ.out.below⟩
  · -- 3
    have w1 : IntKind.i64.wrap (54001 + far) = 54001 + far := IntWalk.i64_in _ (by omega)
    have hy : X.types[0]? = some k0 := by rw [HSh1.out]; rfl
    obtain ⟨d0, d1, d2⟩ := lc_cell (K7.out.row 1 rfl) hy
    simp only [Nat.zero_mul, Nat.zero_add] at d0 d1 d2
    have f0 := K7.out.swap.free hMp 0
    have KP := Lib.hid ((K7.out.swap.put hMp 0 (.int .i64 (54001 + far))).swap)
    have hset : (X.types.flatMap Lc.cells).set 0 (.int .i64 (54001 + far)) = ([] ++ (Lc.mk (54001 + far) k0.dst k0.abbr) :: (k1 :: k2 :: kr)).flatMap Lc.cells := by rw [HSh1.out]; rfl
    have hchk : checkE ⟨[] ++ (Lc.mk (54001 + far) k0.dst k0.abbr) :: (k1 :: k2 :: kr), X.trans, S⟩ = 3 := check_types_is (typesE_at (l' := k0) (by have := HT0.out; rw [HSh1.out] at this; exact this) (by unfold lcE; rw [if_pos (by dsimp only; omega)]) (by decide)) (by decide)
    have TB := Lib.hid (show TabV (wz.setCell ⟨g, 0, none⟩ (.int .i64 (54001 + far))) (.slice (some ⟨g, 0, none⟩) M xc) (.slice (some ⟨q, 0, none⟩) N yc) (bs S) ⟨[] ++ (Lc.mk (54001 + far) k0.dst k0.abbr) :: (k1 :: k2 :: kr), X.trans, S⟩ from ⟨LcV.own (B := W.heap.size) (e := 28) (n := X.types.length) (by rw [← hset]; exact KP.out.row 1 rfl) (by rw [HSh1.out]; rfl), TrV.own (KP.out.row 0 rfl) rfl, rfl, mem_swap (x := k0) (a := []) (by have := HF.out.lcs; rw [HSh1.out] at this; exact this) ⟨wf_64 (by dsimp only; omega), (HF.out.lcs k0 (by rw [HSh1.out]; simp)).2⟩, HF.out.trs⟩)
    clear hy hset
    have CT := Lib.hid (fun w h hE => ttext_any ⟨[] ++ (Lc.mk (54001 + far) k0.dst k0.abbr) :: (k1 :: k2 :: kr), X.trans, S⟩ (.slice (some ⟨g, 0, none⟩) M xc) (.slice (some ⟨q, 0, none⟩) N yc) (bs S) w h hE (by have := HN.out; dsimp only; omega))
    rw [textP_bad hchk (by decide)] at CT
    dsimp only at CT
    rw [show bs ([] : List UInt8) = (⟨#[]⟩ : ByteArray) from rfl] at CT
    have CC := Lib.hid (fun w h hE => tcheck_any ⟨[] ++ (Lc.mk (54001 + far) k0.dst k0.abbr) :: (k1 :: k2 :: kr), X.trans, S⟩ (.slice (some ⟨g, 0, none⟩) M xc) (.slice (some ⟨q, 0, none⟩) N yc) (bs S) w h hE)
    rw [hchk] at CC
    clear hchk
    obtain ⟨⟨x0, x1, x2⟩, _, _, _⟩ := row3 (KP.out.at 0 rfl)
    go_wp2_with fail
    refine (CT.out _ TB.out (HE.out.keep KP.out.below)).mono ?_
    rintro _ V5 ⟨rfl, hb⟩
    have KX := Lib.hid (KP.out.keep hb)
    have TBX := Lib.hid (TB.out.keep hb)
    clear hb x0 x1 x2
    obtain ⟨⟨x0, x1, x2⟩, _, _, _⟩ := row3 (KX.out.at 0 rfl)
    go_wp2_with fail
    refine (CC.out _ TBX.out (HE.out.keep KX.out.below)).mono ?_
    rintro _ V6 ⟨rfl, hb⟩
    have KY := Lib.hid (KX.out.keep hb)
    clear hb x0 x1 x2
    go_wp2_with fail
    refine (CW.out _ (HE.out.keep KY.out.below)).mono ?_
    rintro _ V7 ⟨rfl, hb⟩
    have KZ := Lib.hid (KY.out.keep hb)
    clear hb
    go_wp2_with fail
    go_ret
    exact ⟨rfl, KZ.out.below⟩
  · -- 3
    have w1 : IntKind.i64.wrap (-54001 - far) = -54001 - far := IntWalk.i64_in _ (by omega)
    have hy : X.types[1]? = some k1 := by rw [HSh1.out]; rfl
    obtain ⟨d0, d1, d2⟩ := lc_cell (K7.out.row 1 rfl) hy
    simp only [Nat.one_mul] at d0 d1 d2
    have f0 := K7.out.swap.free hMp 3
    have KP := Lib.hid ((K7.out.swap.put hMp 3 (.int .i64 (-54001 - far))).swap)
    have hset : (X.types.flatMap Lc.cells).set 3 (.int .i64 (-54001 - far)) = ([k0] ++ (Lc.mk (-54001 - far) k1.dst k1.abbr) :: (k2 :: kr)).flatMap Lc.cells := by rw [HSh1.out]; rfl
    have hchk : checkE ⟨[k0] ++ (Lc.mk (-54001 - far) k1.dst k1.abbr) :: (k2 :: kr), X.trans, S⟩ = 3 := check_types_is (typesE_at (l' := k1) (by have := HT0.out; rw [HSh1.out] at this; exact this) (by unfold lcE; rw [if_pos (by dsimp only; omega)]) (by decide)) (by decide)
    have TB := Lib.hid (show TabV (wz.setCell ⟨g, 3, none⟩ (.int .i64 (-54001 - far))) (.slice (some ⟨g, 0, none⟩) M xc) (.slice (some ⟨q, 0, none⟩) N yc) (bs S) ⟨[k0] ++ (Lc.mk (-54001 - far) k1.dst k1.abbr) :: (k2 :: kr), X.trans, S⟩ from ⟨LcV.own (B := W.heap.size) (e := 28) (n := X.types.length) (by rw [← hset]; exact KP.out.row 1 rfl) (by rw [HSh1.out]; rfl), TrV.own (KP.out.row 0 rfl) rfl, rfl, mem_swap (x := k1) (a := [k0]) (by have := HF.out.lcs; rw [HSh1.out] at this; exact this) ⟨wf_64 (by dsimp only; omega), (HF.out.lcs k1 (by rw [HSh1.out]; simp)).2⟩, HF.out.trs⟩)
    clear hy hset
    have CT := Lib.hid (fun w h hE => ttext_any ⟨[k0] ++ (Lc.mk (-54001 - far) k1.dst k1.abbr) :: (k2 :: kr), X.trans, S⟩ (.slice (some ⟨g, 0, none⟩) M xc) (.slice (some ⟨q, 0, none⟩) N yc) (bs S) w h hE (by have := HN.out; dsimp only; omega))
    rw [textP_bad hchk (by decide)] at CT
    dsimp only at CT
    rw [show bs ([] : List UInt8) = (⟨#[]⟩ : ByteArray) from rfl] at CT
    have CC := Lib.hid (fun w h hE => tcheck_any ⟨[k0] ++ (Lc.mk (-54001 - far) k1.dst k1.abbr) :: (k2 :: kr), X.trans, S⟩ (.slice (some ⟨g, 0, none⟩) M xc) (.slice (some ⟨q, 0, none⟩) N yc) (bs S) w h hE)
    rw [hchk] at CC
    clear hchk
    obtain ⟨⟨x0, x1, x2⟩, _, _, _⟩ := row3 (KP.out.at 0 rfl)
    go_wp2_with fail
    refine (CT.out _ TB.out (HE.out.keep KP.out.below)).mono ?_
    rintro _ V5 ⟨rfl, hb⟩
    have KX := Lib.hid (KP.out.keep hb)
    have TBX := Lib.hid (TB.out.keep hb)
    clear hb x0 x1 x2
    obtain ⟨⟨x0, x1, x2⟩, _, _, _⟩ := row3 (KX.out.at 0 rfl)
    go_wp2_with fail
    refine (CC.out _ TBX.out (HE.out.keep KX.out.below)).mono ?_
    rintro _ V6 ⟨rfl, hb⟩
    have KY := Lib.hid (KX.out.keep hb)
    clear hb x0 x1 x2
    go_wp2_with fail
    refine (CW.out _ (HE.out.keep KY.out.below)).mono ?_
    rintro _ V7 ⟨rfl, hb⟩
    have KZ := Lib.hid (KY.out.keep hb)
    clear hb
    go_wp2_with fail
    go_ret
    exact ⟨rfl, KZ.out.below⟩
  · -- 15
    obtain ⟨r, hrr⟩ : ∃ r : Nat, far % 6 = (r : Int) := ⟨(far % 6).toNat, by omega⟩
    have hr6 : r < 6 := by omega
    obtain ⟨bad, hbad, hnm, hbs⟩ : ∃ b : ByteArray, (#[.string ⟨#[]⟩, .string ⟨#[65, 66]⟩, .string ⟨#[65, 66, 67, 68, 69, 70, 71, 72]⟩, .string ⟨#[65, 32, 66]⟩, .string ⟨#[65, 47, 66]⟩, .string ⟨#[65, 0, 66]⟩] : Array Value)[r]? = some (.string b) ∧ nameOk b.data.toList = false ∧ b.size ≤ 8 := by
      rcases (show r = 0 ∨ r = 1 ∨ r = 2 ∨ r = 3 ∨ r = 4 ∨ r = 5 by omega) with rfl | rfl | rfl | rfl | rfl | rfl
      · exact ⟨_, rfl, by kernel_rfl, by decide⟩
      · exact ⟨_, rfl, by kernel_rfl, by decide⟩
      · exact ⟨_, rfl, by kernel_rfl, by decide⟩
      · exact ⟨_, rfl, by kernel_rfl, by decide⟩
      · exact ⟨_, rfl, by kernel_rfl, by decide⟩
      · exact ⟨_, rfl, by kernel_rfl, by decide⟩
    have hk1 := lcE_name ((typesE_zero HT0.out).2.2.2 k1 (by rw [HSh1.out]; simp))
    have hri : (r : Int) < 6 := by omega
    have hcell : (wz.alloc (.cells #[.string ⟨#[]⟩, .string ⟨#[65, 66]⟩, .string ⟨#[65, 66, 67, 68, 69, 70, 71, 72]⟩, .string ⟨#[65, 32, 66]⟩, .string ⟨#[65, 47, 66]⟩, .string ⟨#[65, 0, 66]⟩] 9)).cell? ⟨wz.heap.size, r, none⟩ = some (.string bad) := by rw [cells_at (((Kp.start wz).alloc _).at 0 rfl) r]; exact hbad
    have hy : X.types[1]? = some k1 := by rw [HSh1.out]; rfl
    obtain ⟨d0, d1, d2⟩ := lc_cell (K7.out.row 1 rfl) hy
    simp only [Nat.one_mul] at d0 d1 d2
    have f0 := K7.out.swap.free hMp 5
    have KP := Lib.hid ((K7.out.swap.put hMp 5 (.string bad)).swap.past (.cells #[.string ⟨#[]⟩, .string ⟨#[65, 66]⟩, .string ⟨#[65, 66, 67, 68, 69, 70, 71, 72]⟩, .string ⟨#[65, 32, 66]⟩, .string ⟨#[65, 47, 66]⟩, .string ⟨#[65, 0, 66]⟩] 9)).drew
    have hset : (X.types.flatMap Lc.cells).set 5 (.string bad) = ([k0] ++ (Lc.mk k1.off k1.dst bad) :: (k2 :: kr)).flatMap Lc.cells := by rw [HSh1.out]; rfl
    have hchk : checkE ⟨[k0] ++ (Lc.mk k1.off k1.dst bad) :: (k2 :: kr), X.trans, S⟩ = 15 := check_types_is (typesE_at (l' := k1) (by have := HT0.out; rw [HSh1.out] at this; exact this) (by unfold lcE; rw [if_neg (by dsimp only; omega), if_pos hnm]) (by decide)) (by decide)
    have TB := Lib.hid (show TabV ((wz.setCell ⟨g, 5, none⟩ (.string bad)).alloc (.cells #[.string ⟨#[]⟩, .string ⟨#[65, 66]⟩, .string ⟨#[65, 66, 67, 68, 69, 70, 71, 72]⟩, .string ⟨#[65, 32, 66]⟩, .string ⟨#[65, 47, 66]⟩, .string ⟨#[65, 0, 66]⟩] 9)).drew (.slice (some ⟨g, 0, none⟩) M xc) (.slice (some ⟨q, 0, none⟩) N yc) (bs S) ⟨[k0] ++ (Lc.mk k1.off k1.dst bad) :: (k2 :: kr), X.trans, S⟩ from ⟨LcV.own (B := W.heap.size) (e := 28) (n := X.types.length) (by rw [← hset]; exact KP.out.row 1 rfl) (by rw [HSh1.out]; rfl), TrV.own (KP.out.row 0 rfl) rfl, rfl, mem_swap (x := k1) (a := [k0]) (by have := HF.out.lcs; rw [HSh1.out] at this; exact this) ⟨(HF.out.lcs k1 (by rw [HSh1.out]; simp)).1, by unfold maxLen; dsimp only; omega⟩, HF.out.trs⟩)
    clear hy hset hk1 hnm hbs hr6
    go_upto_region 18 with fail
    go_region
    all_goals
      clear hbad hcell hrr hri
      have CT := Lib.hid (fun w h hE => ttext_any ⟨[k0] ++ (Lc.mk k1.off k1.dst bad) :: (k2 :: kr), X.trans, S⟩ (.slice (some ⟨g, 0, none⟩) M xc) (.slice (some ⟨q, 0, none⟩) N yc) (bs S) w h hE (by have := HN.out; dsimp only; omega))
      rw [textP_bad hchk (by decide)] at CT
      dsimp only at CT
      rw [show bs ([] : List UInt8) = (⟨#[]⟩ : ByteArray) from rfl] at CT
      have CC := Lib.hid (fun w h hE => tcheck_any ⟨[k0] ++ (Lc.mk k1.off k1.dst bad) :: (k2 :: kr), X.trans, S⟩ (.slice (some ⟨g, 0, none⟩) M xc) (.slice (some ⟨q, 0, none⟩) N yc) (bs S) w h hE)
      rw [hchk] at CC
      clear hchk
      obtain ⟨⟨x0, x1, x2⟩, _, _, _⟩ := row3 (KP.out.at 0 rfl)
      go_wp2_with fail
      refine (CT.out _ TB.out (HE.out.keep KP.out.below)).mono ?_
      rintro _ V5 ⟨rfl, hb⟩
      have KX := Lib.hid (KP.out.keep hb)
      have TBX := Lib.hid (TB.out.keep hb)
      clear hb x0 x1 x2
      obtain ⟨⟨x0, x1, x2⟩, _, _, _⟩ := row3 (KX.out.at 0 rfl)
      go_wp2_with fail
      refine (CC.out _ TBX.out (HE.out.keep KX.out.below)).mono ?_
      rintro _ V6 ⟨rfl, hb⟩
      have KY := Lib.hid (KX.out.keep hb)
      clear hb x0 x1 x2
      go_wp2_with fail
      refine (CW.out _ (HE.out.keep KY.out.below)).mono ?_
      rintro _ V7 ⟨rfl, hb⟩
      have KZ := Lib.hid (KY.out.keep hb)
      clear hb
      go_wp2_with fail
      go_ret
      exact ⟨rfl, KZ.out.below⟩
  · -- 10
    obtain ⟨k1o, k1d, k1a⟩ := k1
    have hy : X.types[1]? = some ⟨k1o, k1d, k1a⟩ := by rw [HSh1.out]; rfl
    obtain ⟨d0, d1, d2⟩ := lc_cell (K7.out.row 1 rfl) hy
    simp only [Nat.one_mul] at d0 d1 d2
    have hchk : checkE ⟨X.types ++ [Lc.mk k1o k1d k1a], X.trans, S⟩ = 10 := check_types_is (typesE_twice HT0.out (by rw [HM.out]; omega) (List.mem_of_getElem? hy)) (by decide)
    have hfk := HF.out.lcs _ (List.mem_of_getElem? hy)
    have HFk := Lib.hid hfk
    have HCk := Lib.hid hchk
    clear hy hfk hchk
    have hMi1 : (1 : Int) < (M : Int) := by omega
    have hml : X.types.length ≤ 11 := by rw [HM.out]; omega
    go_upto_region 20 with fail
    go_region_law (first
      | (refine step_append_kp (by rfl) (.tmp 87) (.tmp 92) 22 (by rfl) ((K7.out.swap.allocAt wz.heap.size (by simp) (.cells #[.int .i64 k1o, .bool k1d, .string k1a] 28)).drew) i0 (.agg #[.int .i64 0, .bool false, .string ⟨#[]⟩]) 32 Tryz.underlying22 hi hz0 hz1 hz2 (by rfl) (by decide) (by rfl) 0 _ _ _ (by rfl) 1 1 (by rfl) (by rfl) (by simp [Value.oneCell']) (by omega) (by omega) (by omega) ?_; intro gq capq w9 hk; have KC := Lib.hid hk.drop; obtain ⟨⟨x0, x1, x2⟩, s0', s1', s2'⟩ := row3 (KC.out.at 0 rfl); have z0 := KC.out.lt 0 rfl; clear hk))
    all_goals
      have KP := Lib.hid (KC.out.set 0 rfl 0 (.slice (some ⟨gq, 0, none⟩) (X.types.length + 1) capq) rfl)
      have TB := Lib.hid (show TabV _ (.slice (some ⟨gq, 0, none⟩) (X.types.length + 1) capq) (.slice (some ⟨q, 0, none⟩) N yc) (bs S) ⟨X.types ++ [Lc.mk k1o k1d k1a], X.trans, S⟩ from ⟨LcV.own (B := W.heap.size) (e := 28) (n := X.types.length + 1) (by rw [lcs_snoc]; exact KP.out.row 0 rfl) (by rw [List.length_append]; rfl), TrV.own (KP.out.row 1 rfl) rfl, rfl, fun l hl => by
        rcases List.mem_append.1 hl with hl | hl
        · exact HF.out.lcs l hl
        · rw [List.mem_singleton.1 hl]; exact HFk.out, HF.out.trs⟩)
      have hchk := HCk.out
      clear x0 x1 x2 s0' s1' s2' z0
      have CT := Lib.hid (fun w h hE => ttext_any ⟨X.types ++ [Lc.mk k1o k1d k1a], X.trans, S⟩ (.slice (some ⟨gq, 0, none⟩) (X.types.length + 1) capq) (.slice (some ⟨q, 0, none⟩) N yc) (bs S) w h hE (by have := HN.out; dsimp only; omega))
      rw [textP_bad hchk (by decide)] at CT
      dsimp only at CT
      rw [show bs ([] : List UInt8) = (⟨#[]⟩ : ByteArray) from rfl] at CT
      have CC := Lib.hid (fun w h hE => tcheck_any ⟨X.types ++ [Lc.mk k1o k1d k1a], X.trans, S⟩ (.slice (some ⟨gq, 0, none⟩) (X.types.length + 1) capq) (.slice (some ⟨q, 0, none⟩) N yc) (bs S) w h hE)
      rw [hchk] at CC
      clear hchk
      obtain ⟨⟨x0, x1, x2⟩, _, _, _⟩ := row3 (KP.out.at 0 rfl)
      go_wp2_with fail
      refine (CT.out _ TB.out (HE.out.keep KP.out.below)).mono ?_
      rintro _ V5 ⟨rfl, hb⟩
      have KX := Lib.hid (KP.out.keep hb)
      have TBX := Lib.hid (TB.out.keep hb)
      clear hb x0 x1 x2
      obtain ⟨⟨x0, x1, x2⟩, _, _, _⟩ := row3 (KX.out.at 0 rfl)
      go_wp2_with fail
      refine (CC.out _ TBX.out (HE.out.keep KX.out.below)).mono ?_
      rintro _ V6 ⟨rfl, hb⟩
      have KY := Lib.hid (KX.out.keep hb)
      clear hb x0 x1 x2
      go_wp2_with fail
      refine (CW.out _ (HE.out.keep KY.out.below)).mono ?_
      rintro _ V7 ⟨rfl, hb⟩
      have KZ := Lib.hid (KY.out.keep hb)
      clear hb
      go_wp2_with fail
      go_ret
      exact ⟨rfl, KZ.out.below⟩
  · -- 4
    have KA := Lib.hid (K7.out.swap.allocAt wz.heap.size (by simp) (.cells #[.int .i64 54000, .bool false, .string ⟨#[90, 90, 90]⟩] 28))
    have hzl : lcE (Lc.mk 54000 false ⟨#[90, 90, 90]⟩) = 0 := by kernel_rfl
    have hzm : (Lc.mk 54000 false ⟨#[90, 90, 90]⟩) ∉ X.types := fun hm => by
      obtain ⟨k, hk, ho⟩ := (HFi.out _ hm).off
      dsimp only at ho
      omega
    have ht := typesE_more HT0.out (by rw [HM.out]; omega) H7.out hzm hzl (by decide)
    have hchk : checkE ⟨X.types ++ [Lc.mk 54000 false ⟨#[90, 90, 90]⟩], X.trans, S⟩ = 4 := check_trans_is ht (show transGo ((X.types ++ [Lc.mk 54000 false ⟨#[90, 90, 90]⟩]).length : Int) 0 0 none X.trans = 4 from by
      rw [show ((X.types ++ [Lc.mk 54000 false ⟨#[90, 90, 90]⟩]).length : Int) = (X.types.length : Int) + 1 by rw [List.length_append]; rfl]
      exact transGo_more _ _ _ _ HR0.out) (by decide)
    clear hzm ht
    go_wp2_with (first
      | (at_builtin; refine wpList_append_own_at _ rfl (.tmp 98) (.tmp 100) 22 rfl W.heap.size 28 i0 (.agg #[.int .i64 0, .bool false, .string ⟨#[]⟩]) 3 32 Tryz.underlying22 hi hz0 hz1 hz2 rfl (by decide) _ X.types.length _ rfl (KA.out.row 0 rfl) ⟨wz.heap.size, 0, none⟩ 1 1 [.int .i64 54000, .bool false, .string ⟨#[90, 90, 90]⟩] rfl rfl ?c1 ?c2 ?c3 ?c4 ?c5 ?_; (case c1 => exact World.news_of_block (KA.out.at 0 rfl)); (case c2 => simp [Value.oneCell']); (case c3 => unfold maxLen; have := HM.out; omega); (case c4 => have := HM.out; omega); (case c5 => exact KA.out.below.size); intro v' w9 hown hgrow _ hat; have hk1 := (KA.out.append hown hgrow hat).drop; obtain ⟨ua, uc, rfl⟩ : ∃ a c, v' = .slice a (X.types.length + 1) c := own_slice hown; have KC := Lib.hid hk1; obtain ⟨⟨x0, x1, x2⟩, s0', s1', s2'⟩ := row3 (KC.out.at 0 rfl); have z0 := KC.out.lt 0 rfl; clear hown hgrow hat hk1; rw [HM.out]; rw [HM.out] at KC))
    have KP := Lib.hid (KC.out.set 0 rfl 0 (.slice ua (M + 1) uc) rfl)
    have TB := Lib.hid (show TabV _ (.slice ua (M + 1) uc) (.slice (some ⟨q, 0, none⟩) N yc) (bs S) ⟨X.types ++ [Lc.mk 54000 false ⟨#[90, 90, 90]⟩], X.trans, S⟩ from ⟨LcV.own (B := W.heap.size) (e := 28) (n := M + 1) (by rw [lcs_snoc]; exact KP.out.row 0 rfl) (by rw [List.length_append, HM.out]; rfl), TrV.own (KP.out.row 1 rfl) rfl, rfl, fun l hl => by
      rcases List.mem_append.1 hl with hl | hl
      · exact HF.out.lcs l hl
      · rw [List.mem_singleton.1 hl]; exact ⟨by kernel_rfl, by decide⟩, HF.out.trs⟩)
    have CT := Lib.hid (fun w h hE => ttext_any ⟨X.types ++ [Lc.mk 54000 false ⟨#[90, 90, 90]⟩], X.trans, S⟩ (.slice ua (M + 1) uc) (.slice (some ⟨q, 0, none⟩) N yc) (bs S) w h hE (by have := HN.out; dsimp only; omega))
    rw [textP_bad hchk (by decide)] at CT
    dsimp only at CT
    rw [show bs ([] : List UInt8) = (⟨#[]⟩ : ByteArray) from rfl] at CT
    have CC := Lib.hid (fun w h hE => tcheck_any ⟨X.types ++ [Lc.mk 54000 false ⟨#[90, 90, 90]⟩], X.trans, S⟩ (.slice ua (M + 1) uc) (.slice (some ⟨q, 0, none⟩) N yc) (bs S) w h hE)
    rw [hchk] at CC
    clear hchk
    refine (CT.out _ TB.out (HE.out.keep KP.out.below)).mono ?_
    rintro _ V5 ⟨rfl, hb⟩
    have KX := Lib.hid (KP.out.keep hb)
    have TBX := Lib.hid (TB.out.keep hb)
    clear hb x0 x1 x2
    obtain ⟨⟨x0, x1, x2⟩, _, _, _⟩ := row3 (KX.out.at 0 rfl)
    go_wp2_with fail
    refine (CC.out _ TBX.out (HE.out.keep KX.out.below)).mono ?_
    rintro _ V6 ⟨rfl, hb⟩
    have KY := Lib.hid (KX.out.keep hb)
    clear hb x0 x1 x2
    go_wp2_with fail
    refine (CW.out _ (HE.out.keep KY.out.below)).mono ?_
    rintro _ V7 ⟨rfl, hb⟩
    have KZ := Lib.hid (KY.out.keep hb)
    clear hb
    go_wp2_with fail
    go_ret
    exact ⟨rfl, KZ.out.below⟩
  · -- 3
    have w1' : IntKind.i64.wrap (-36028797018963969 - far) = -36028797018963969 - far := IntWalk.i64_in _ (by omega)
    have hx0 : X.trans[0]? = some ⟨t0, 1⟩ := by rw [HSh2.out]; rfl
    have hx1 : X.trans[1]? = some ⟨t1, 2⟩ := by rw [HSh2.out]; rfl
    obtain ⟨c0, c1⟩ := tr_cell (K7.out.row 0 rfl) hx0
    obtain ⟨c2, c3⟩ := tr_cell (K7.out.row 0 rfl) hx1
    simp only [Nat.zero_mul, Nat.zero_add] at c0 c1
    simp only [Nat.one_mul] at c2 c3
    have h2 : transGo X.types.length 0 0 none (⟨t0, 1⟩ :: ⟨t1, 2⟩ :: (⟨t2, 1⟩ :: ts)) = 0 := by rw [← HSh2.out]; exact HR0.out
    have h3 := trans_two h2
    have f0 := K7.out.free hNp 0
    have KP := Lib.hid (K7.out.put hNp 0 (.int .i64 (-36028797018963969 - far)))
    have hset : (X.trans.flatMap Tr.cells).set 0 (.int .i64 (-36028797018963969 - far)) = ([] ++ (Tr.mk (-36028797018963969 - far) 1) :: (⟨t1, 2⟩ :: ⟨t2, 1⟩ :: ts)).flatMap Tr.cells := by rw [HSh2.out]; rfl
    have hchk : checkE ⟨X.types, [] ++ (Tr.mk (-36028797018963969 - far) 1) :: (⟨t1, 2⟩ :: ⟨t2, 1⟩ :: ts), S⟩ = 3 := check_trans_is HT0.out (show transGo X.types.length 0 0 none ([] ++ (Tr.mk (-36028797018963969 - far) 1) :: (⟨t1, 2⟩ :: ⟨t2, 1⟩ :: ts)) = 3 from transGo_far (y := ⟨t0, 1⟩) (by dsimp only; omega) _ [] 0 0 none h2) (by decide)
    have TB := Lib.hid (show TabV (wz.setCell ⟨q, 0, none⟩ (.int .i64 (-36028797018963969 - far))) (.slice (some ⟨g, 0, none⟩) M xc) (.slice (some ⟨q, 0, none⟩) N yc) (bs S) ⟨X.types, [] ++ (Tr.mk (-36028797018963969 - far) 1) :: (⟨t1, 2⟩ :: ⟨t2, 1⟩ :: ts), S⟩ from ⟨LcV.own (KP.out.row 1 rfl) rfl, TrV.own (B := W.heap.size) (e := 59) (n := X.trans.length) (by rw [← hset]; exact KP.out.row 0 rfl) (by rw [HSh2.out]; rfl), rfl, HF.out.lcs, mem_swap (x := Tr.mk t0 1) (a := []) (by have := HF.out.trs; rw [HSh2.out] at this; exact this) ⟨wf_64 (by dsimp only; omega), wf_64 (by dsimp only; omega)⟩⟩)
    have hlen : ([] ++ (Tr.mk (-36028797018963969 - far) 1) :: (⟨t1, 2⟩ :: ⟨t2, 1⟩ :: ts) : List Tr).length ≤ 1000000 := by have h9 := HN.out; rw [HSh2.out] at h9; simp only [List.length_append, List.length_cons, List.length_nil] at h9 ⊢; omega
    have hMi : (0 : Int) < (M : Int) := by omega
    have hNi0 : (0 : Int) < (N : Int) := by omega
    have hNi1 : (1 : Int) < (N : Int) := by omega
    have HLn := Lib.hid hlen
    clear hx0 hx1 h2 h3 hset hlen
    have CT := Lib.hid (fun w h hE => ttext_any ⟨X.types, [] ++ (Tr.mk (-36028797018963969 - far) 1) :: (⟨t1, 2⟩ :: ⟨t2, 1⟩ :: ts), S⟩ (.slice (some ⟨g, 0, none⟩) M xc) (.slice (some ⟨q, 0, none⟩) N yc) (bs S) w h hE (by exact HLn.out))
    rw [textP_bad hchk (by decide)] at CT
    dsimp only at CT
    rw [show bs ([] : List UInt8) = (⟨#[]⟩ : ByteArray) from rfl] at CT
    have CC := Lib.hid (fun w h hE => tcheck_any ⟨X.types, [] ++ (Tr.mk (-36028797018963969 - far) 1) :: (⟨t1, 2⟩ :: ⟨t2, 1⟩ :: ts), S⟩ (.slice (some ⟨g, 0, none⟩) M xc) (.slice (some ⟨q, 0, none⟩) N yc) (bs S) w h hE)
    rw [hchk] at CC
    clear hchk
    obtain ⟨⟨x0, x1, x2⟩, _, _, _⟩ := row3 (KP.out.at 0 rfl)
    go_wp2_with fail
    refine (CT.out _ TB.out (HE.out.keep KP.out.below)).mono ?_
    rintro _ V5 ⟨rfl, hb⟩
    have KX := Lib.hid (KP.out.keep hb)
    have TBX := Lib.hid (TB.out.keep hb)
    clear hb x0 x1 x2
    obtain ⟨⟨x0, x1, x2⟩, _, _, _⟩ := row3 (KX.out.at 0 rfl)
    go_wp2_with fail
    refine (CC.out _ TBX.out (HE.out.keep KX.out.below)).mono ?_
    rintro _ V6 ⟨rfl, hb⟩
    have KY := Lib.hid (KX.out.keep hb)
    clear hb x0 x1 x2
    go_wp2_with fail
    refine (CW.out _ (HE.out.keep KY.out.below)).mono ?_
    rintro _ V7 ⟨rfl, hb⟩
    have KZ := Lib.hid (KY.out.keep hb)
    clear hb
    go_wp2_with fail
    go_ret
    exact ⟨rfl, KZ.out.below⟩
  · -- 3
    have w1' : IntKind.i64.wrap (36028797018963969 + far) = 36028797018963969 + far := IntWalk.i64_in _ (by omega)
    obtain ⟨zs, ⟨zt, zk⟩, hz⟩ : ∃ zs z, X.trans = zs ++ [z] := ⟨X.trans.dropLast, X.trans.getLast (List.length_pos_iff.1 hNp), (List.dropLast_concat_getLast (List.length_pos_iff.1 hNp)).symm⟩
    obtain ⟨n1, hn1⟩ : ∃ n, zs.length = n := ⟨_, rfl⟩
    have hN1 : N = n1 + 1 := by rw [← HN.out, hz, List.length_append, hn1]; rfl
    have w2' : IntKind.i64.wrap ((N : Int) - 1) = (n1 : Int) := by rw [IntWalk.i64_in _ (by omega)]; omega
    have hx0 : X.trans[n1]? = some ⟨zt, zk⟩ := by rw [hz, ← hn1, List.getElem?_append_right (Nat.le_refl _), Nat.sub_self]; rfl
    obtain ⟨c0, c1⟩ := tr_cell (K7.out.row 0 rfl) hx0
    have h2 : transGo X.types.length 0 0 none (zs ++ (Tr.mk zt zk) :: []) = 0 := by rw [← hz]; exact HR0.out
    have f0 := K7.out.free hNp (n1 * 2)
    have KP := Lib.hid (K7.out.put hNp (n1 * 2) (.int .i64 (36028797018963969 + far)))
    have hset : (X.trans.flatMap Tr.cells).set (n1 * 2) (.int .i64 (36028797018963969 + far)) = (zs ++ (Tr.mk (36028797018963969 + far) zk) :: []).flatMap Tr.cells := by rw [hz, ← hn1]; exact set_last zs ⟨zt, zk⟩ _
    have hchk : checkE ⟨X.types, zs ++ (Tr.mk (36028797018963969 + far) zk) :: [], S⟩ = 3 := check_trans_is HT0.out (show transGo X.types.length 0 0 none (zs ++ (Tr.mk (36028797018963969 + far) zk) :: []) = 3 from transGo_far (by dsimp only; omega) _ _ 0 0 none h2) (by decide)
    have TB := Lib.hid (show TabV (wz.setCell ⟨q, n1 * 2, none⟩ (.int .i64 (36028797018963969 + far))) (.slice (some ⟨g, 0, none⟩) M xc) (.slice (some ⟨q, 0, none⟩) N yc) (bs S) ⟨X.types, zs ++ (Tr.mk (36028797018963969 + far) zk) :: [], S⟩ from ⟨LcV.own (KP.out.row 1 rfl) rfl, TrV.own (B := W.heap.size) (e := 59) (n := X.trans.length) (by rw [← hset]; exact KP.out.row 0 rfl) (by rw [hz, List.length_append, List.length_append]; rfl), rfl, HF.out.lcs, mem_swap (x := Tr.mk zt zk) (a := zs) (by have := HF.out.trs; rw [hz] at this; exact this) ⟨wf_64 (by dsimp only; omega), (HF.out.trs ⟨zt, zk⟩ (by rw [hz]; simp)).2⟩⟩)
    have HLn := Lib.hid (show (zs ++ (Tr.mk (36028797018963969 + far) zk) :: [] : List Tr).length ≤ 1000000 by rw [List.length_append, hn1]; show n1 + 1 ≤ 1000000; omega)
    have hNi : (n1 : Int) < (N : Int) := by omega
    have HN1 := Lib.hid hN1
    clear hx0 h2 hset hz hn1 hN1
    have CT := Lib.hid (fun w h hE => ttext_any ⟨X.types, zs ++ (Tr.mk (36028797018963969 + far) zk) :: [], S⟩ (.slice (some ⟨g, 0, none⟩) M xc) (.slice (some ⟨q, 0, none⟩) N yc) (bs S) w h hE (by exact HLn.out))
    rw [textP_bad hchk (by decide)] at CT
    dsimp only at CT
    rw [show bs ([] : List UInt8) = (⟨#[]⟩ : ByteArray) from rfl] at CT
    have CC := Lib.hid (fun w h hE => tcheck_any ⟨X.types, zs ++ (Tr.mk (36028797018963969 + far) zk) :: [], S⟩ (.slice (some ⟨g, 0, none⟩) M xc) (.slice (some ⟨q, 0, none⟩) N yc) (bs S) w h hE)
    rw [hchk] at CC
    clear hchk
    obtain ⟨⟨x0, x1, x2⟩, _, _, _⟩ := row3 (KP.out.at 0 rfl)
    go_wp2_with fail
    refine (CT.out _ TB.out (HE.out.keep KP.out.below)).mono ?_
    rintro _ V5 ⟨rfl, hb⟩
    have KX := Lib.hid (KP.out.keep hb)
    have TBX := Lib.hid (TB.out.keep hb)
    clear hb x0 x1 x2
    obtain ⟨⟨x0, x1, x2⟩, _, _, _⟩ := row3 (KX.out.at 0 rfl)
    go_wp2_with fail
    refine (CC.out _ TBX.out (HE.out.keep KX.out.below)).mono ?_
    rintro _ V6 ⟨rfl, hb⟩
    have KY := Lib.hid (KX.out.keep hb)
    clear hb x0 x1 x2
    go_wp2_with fail
    refine (CW.out _ (HE.out.keep KY.out.below)).mono ?_
    rintro _ V7 ⟨rfl, hb⟩
    have KZ := Lib.hid (KY.out.keep hb)
    clear hb
    go_wp2_with fail
    go_ret
    exact ⟨rfl, KZ.out.below⟩
  · -- 12
    have hx0 : X.trans[0]? = some ⟨t0, 1⟩ := by rw [HSh2.out]; rfl
    have hx1 : X.trans[1]? = some ⟨t1, 2⟩ := by rw [HSh2.out]; rfl
    obtain ⟨c0, c1⟩ := tr_cell (K7.out.row 0 rfl) hx0
    obtain ⟨c2, c3⟩ := tr_cell (K7.out.row 0 rfl) hx1
    simp only [Nat.zero_mul, Nat.zero_add] at c0 c1
    simp only [Nat.one_mul] at c2 c3
    have h2 : transGo X.types.length 0 0 none (⟨t0, 1⟩ :: ⟨t1, 2⟩ :: (⟨t2, 1⟩ :: ts)) = 0 := by rw [← HSh2.out]; exact HR0.out
    have h3 := trans_two h2
    have f0 := K7.out.free hNp 2
    have KP := Lib.hid (K7.out.put hNp 2 (.int .i64 t0)).drew
    have hset : (X.trans.flatMap Tr.cells).set 2 (.int .i64 t0) = ([Tr.mk t0 1] ++ (Tr.mk t0 2) :: (⟨t2, 1⟩ :: ts)).flatMap Tr.cells := by rw [HSh2.out]; rfl
    have hchk : checkE ⟨X.types, [Tr.mk t0 1] ++ (Tr.mk t0 2) :: (⟨t2, 1⟩ :: ts), S⟩ = 12 := check_trans_is HT0.out (show transGo X.types.length 0 0 none ([Tr.mk t0 1] ++ (Tr.mk t0 2) :: (⟨t2, 1⟩ :: ts)) = 12 from h3.1 2) (by decide)
    have TB := Lib.hid (show TabV (wz.setCell ⟨q, 2, none⟩ (.int .i64 t0)).drew (.slice (some ⟨g, 0, none⟩) M xc) (.slice (some ⟨q, 0, none⟩) N yc) (bs S) ⟨X.types, [Tr.mk t0 1] ++ (Tr.mk t0 2) :: (⟨t2, 1⟩ :: ts), S⟩ from ⟨LcV.own (KP.out.row 1 rfl) rfl, TrV.own (B := W.heap.size) (e := 59) (n := X.trans.length) (by rw [← hset]; exact KP.out.row 0 rfl) (by rw [HSh2.out]; rfl), rfl, HF.out.lcs, mem_swap (x := Tr.mk t1 2) (a := [Tr.mk t0 1]) (by have := HF.out.trs; rw [HSh2.out] at this; exact this) ⟨(HF.out.trs ⟨t0, 1⟩ (by rw [HSh2.out]; simp)).1, by kernel_rfl⟩⟩)
    have hlen : ([Tr.mk t0 1] ++ (Tr.mk t0 2) :: (⟨t2, 1⟩ :: ts) : List Tr).length ≤ 1000000 := by have h9 := HN.out; rw [HSh2.out] at h9; simp only [List.length_append, List.length_cons, List.length_nil] at h9 ⊢; omega
    have hMi : (0 : Int) < (M : Int) := by omega
    have hNi0 : (0 : Int) < (N : Int) := by omega
    have hNi1 : (1 : Int) < (N : Int) := by omega
    have HLn := Lib.hid hlen
    clear hx0 hx1 h2 h3 hset hlen
    go_upto_region 28 with fail
    go_region
    all_goals
      have CT := Lib.hid (fun w h hE => ttext_any ⟨X.types, [Tr.mk t0 1] ++ (Tr.mk t0 2) :: (⟨t2, 1⟩ :: ts), S⟩ (.slice (some ⟨g, 0, none⟩) M xc) (.slice (some ⟨q, 0, none⟩) N yc) (bs S) w h hE (by exact HLn.out))
      rw [textP_bad hchk (by decide)] at CT
      dsimp only at CT
      rw [show bs ([] : List UInt8) = (⟨#[]⟩ : ByteArray) from rfl] at CT
      have CC := Lib.hid (fun w h hE => tcheck_any ⟨X.types, [Tr.mk t0 1] ++ (Tr.mk t0 2) :: (⟨t2, 1⟩ :: ts), S⟩ (.slice (some ⟨g, 0, none⟩) M xc) (.slice (some ⟨q, 0, none⟩) N yc) (bs S) w h hE)
      rw [hchk] at CC
      clear hchk
      obtain ⟨⟨x0, x1, x2⟩, _, _, _⟩ := row3 (KP.out.at 0 rfl)
      go_wp2_with fail
      refine (CT.out _ TB.out (HE.out.keep KP.out.below)).mono ?_
      rintro _ V5 ⟨rfl, hb⟩
      have KX := Lib.hid (KP.out.keep hb)
      have TBX := Lib.hid (TB.out.keep hb)
      clear hb x0 x1 x2
      obtain ⟨⟨x0, x1, x2⟩, _, _, _⟩ := row3 (KX.out.at 0 rfl)
      go_wp2_with fail
      refine (CC.out _ TBX.out (HE.out.keep KX.out.below)).mono ?_
      rintro _ V6 ⟨rfl, hb⟩
      have KY := Lib.hid (KX.out.keep hb)
      clear hb x0 x1 x2
      go_wp2_with fail
      refine (CW.out _ (HE.out.keep KY.out.below)).mono ?_
      rintro _ V7 ⟨rfl, hb⟩
      have KZ := Lib.hid (KY.out.keep hb)
      clear hb
      go_wp2_with fail
      go_ret
      exact ⟨rfl, KZ.out.below⟩
  · -- 2
    have w1' : IntKind.i64.wrap (-far) = -far := IntWalk.i64_in _ (by omega)
    have hx0 : X.trans[0]? = some ⟨t0, 1⟩ := by rw [HSh2.out]; rfl
    have hx1 : X.trans[1]? = some ⟨t1, 2⟩ := by rw [HSh2.out]; rfl
    obtain ⟨c0, c1⟩ := tr_cell (K7.out.row 0 rfl) hx0
    obtain ⟨c2, c3⟩ := tr_cell (K7.out.row 0 rfl) hx1
    simp only [Nat.zero_mul, Nat.zero_add] at c0 c1
    simp only [Nat.one_mul] at c2 c3
    have h2 : transGo X.types.length 0 0 none (⟨t0, 1⟩ :: ⟨t1, 2⟩ :: (⟨t2, 1⟩ :: ts)) = 0 := by rw [← HSh2.out]; exact HR0.out
    have h3 := trans_two h2
    have f0 := K7.out.free hNp 1
    have KP := Lib.hid (K7.out.put hNp 1 (.int .i64 (-far)))
    have hset : (X.trans.flatMap Tr.cells).set 1 (.int .i64 (-far)) = ([] ++ (Tr.mk t0 (-far)) :: (⟨t1, 2⟩ :: ⟨t2, 1⟩ :: ts)).flatMap Tr.cells := by rw [HSh2.out]; rfl
    have hchk : checkE ⟨X.types, [] ++ (Tr.mk t0 (-far)) :: (⟨t1, 2⟩ :: ⟨t2, 1⟩ :: ts), S⟩ = 2 := check_trans_is HT0.out (show transGo X.types.length 0 0 none ([] ++ (Tr.mk t0 (-far)) :: (⟨t1, 2⟩ :: ⟨t2, 1⟩ :: ts)) = 2 from h3.2.1 (-far) (by omega)) (by decide)
    have TB := Lib.hid (show TabV (wz.setCell ⟨q, 1, none⟩ (.int .i64 (-far))) (.slice (some ⟨g, 0, none⟩) M xc) (.slice (some ⟨q, 0, none⟩) N yc) (bs S) ⟨X.types, [] ++ (Tr.mk t0 (-far)) :: (⟨t1, 2⟩ :: ⟨t2, 1⟩ :: ts), S⟩ from ⟨LcV.own (KP.out.row 1 rfl) rfl, TrV.own (B := W.heap.size) (e := 59) (n := X.trans.length) (by rw [← hset]; exact KP.out.row 0 rfl) (by rw [HSh2.out]; rfl), rfl, HF.out.lcs, mem_swap (x := Tr.mk t0 1) (a := []) (by have := HF.out.trs; rw [HSh2.out] at this; exact this) ⟨(HF.out.trs ⟨t0, 1⟩ (by rw [HSh2.out]; simp)).1, wf_64 (by dsimp only; omega)⟩⟩)
    have hlen : ([] ++ (Tr.mk t0 (-far)) :: (⟨t1, 2⟩ :: ⟨t2, 1⟩ :: ts) : List Tr).length ≤ 1000000 := by have h9 := HN.out; rw [HSh2.out] at h9; simp only [List.length_append, List.length_cons, List.length_nil] at h9 ⊢; omega
    have hMi : (0 : Int) < (M : Int) := by omega
    have hNi0 : (0 : Int) < (N : Int) := by omega
    have hNi1 : (1 : Int) < (N : Int) := by omega
    have HLn := Lib.hid hlen
    clear hx0 hx1 h2 h3 hset hlen
    have CT := Lib.hid (fun w h hE => ttext_any ⟨X.types, [] ++ (Tr.mk t0 (-far)) :: (⟨t1, 2⟩ :: ⟨t2, 1⟩ :: ts), S⟩ (.slice (some ⟨g, 0, none⟩) M xc) (.slice (some ⟨q, 0, none⟩) N yc) (bs S) w h hE (by exact HLn.out))
    rw [textP_bad hchk (by decide)] at CT
    dsimp only at CT
    rw [show bs ([] : List UInt8) = (⟨#[]⟩ : ByteArray) from rfl] at CT
    have CC := Lib.hid (fun w h hE => tcheck_any ⟨X.types, [] ++ (Tr.mk t0 (-far)) :: (⟨t1, 2⟩ :: ⟨t2, 1⟩ :: ts), S⟩ (.slice (some ⟨g, 0, none⟩) M xc) (.slice (some ⟨q, 0, none⟩) N yc) (bs S) w h hE)
    rw [hchk] at CC
    clear hchk
    obtain ⟨⟨x0, x1, x2⟩, _, _, _⟩ := row3 (KP.out.at 0 rfl)
    go_wp2_with fail
    refine (CT.out _ TB.out (HE.out.keep KP.out.below)).mono ?_
    rintro _ V5 ⟨rfl, hb⟩
    have KX := Lib.hid (KP.out.keep hb)
    have TBX := Lib.hid (TB.out.keep hb)
    clear hb x0 x1 x2
    obtain ⟨⟨x0, x1, x2⟩, _, _, _⟩ := row3 (KX.out.at 0 rfl)
    go_wp2_with fail
    refine (CC.out _ TBX.out (HE.out.keep KX.out.below)).mono ?_
    rintro _ V6 ⟨rfl, hb⟩
    have KY := Lib.hid (KX.out.keep hb)
    clear hb x0 x1 x2
    go_wp2_with fail
    refine (CW.out _ (HE.out.keep KY.out.below)).mono ?_
    rintro _ V7 ⟨rfl, hb⟩
    have KZ := Lib.hid (KY.out.keep hb)
    clear hb
    go_wp2_with fail
    go_ret
    exact ⟨rfl, KZ.out.below⟩
  · -- 2
    have w1' : IntKind.i64.wrap ((M : Int) + far) = (M : Int) + far := IntWalk.i64_in _ (by omega)
    have hx0 : X.trans[0]? = some ⟨t0, 1⟩ := by rw [HSh2.out]; rfl
    have hx1 : X.trans[1]? = some ⟨t1, 2⟩ := by rw [HSh2.out]; rfl
    obtain ⟨c0, c1⟩ := tr_cell (K7.out.row 0 rfl) hx0
    obtain ⟨c2, c3⟩ := tr_cell (K7.out.row 0 rfl) hx1
    simp only [Nat.zero_mul, Nat.zero_add] at c0 c1
    simp only [Nat.one_mul] at c2 c3
    have h2 : transGo X.types.length 0 0 none (⟨t0, 1⟩ :: ⟨t1, 2⟩ :: (⟨t2, 1⟩ :: ts)) = 0 := by rw [← HSh2.out]; exact HR0.out
    have h3 := trans_two h2
    have f0 := K7.out.free hNp 3
    have KP := Lib.hid (K7.out.put hNp 3 (.int .i64 ((M : Int) + far)))
    have hset : (X.trans.flatMap Tr.cells).set 3 (.int .i64 ((M : Int) + far)) = ([Tr.mk t0 1] ++ (Tr.mk t1 ((M : Int) + far)) :: (⟨t2, 1⟩ :: ts)).flatMap Tr.cells := by rw [HSh2.out]; rfl
    have hchk : checkE ⟨X.types, [Tr.mk t0 1] ++ (Tr.mk t1 ((M : Int) + far)) :: (⟨t2, 1⟩ :: ts), S⟩ = 2 := check_trans_is HT0.out (show transGo X.types.length 0 0 none ([Tr.mk t0 1] ++ (Tr.mk t1 ((M : Int) + far)) :: (⟨t2, 1⟩ :: ts)) = 2 from h3.2.2.1 ((M : Int) + far) (by rw [HM.out]; omega)) (by decide)
    have TB := Lib.hid (show TabV (wz.setCell ⟨q, 3, none⟩ (.int .i64 ((M : Int) + far))) (.slice (some ⟨g, 0, none⟩) M xc) (.slice (some ⟨q, 0, none⟩) N yc) (bs S) ⟨X.types, [Tr.mk t0 1] ++ (Tr.mk t1 ((M : Int) + far)) :: (⟨t2, 1⟩ :: ts), S⟩ from ⟨LcV.own (KP.out.row 1 rfl) rfl, TrV.own (B := W.heap.size) (e := 59) (n := X.trans.length) (by rw [← hset]; exact KP.out.row 0 rfl) (by rw [HSh2.out]; rfl), rfl, HF.out.lcs, mem_swap (x := Tr.mk t1 2) (a := [Tr.mk t0 1]) (by have := HF.out.trs; rw [HSh2.out] at this; exact this) ⟨(HF.out.trs ⟨t1, 2⟩ (by rw [HSh2.out]; simp)).1, wf_64 (by dsimp only; omega)⟩⟩)
    have hlen : ([Tr.mk t0 1] ++ (Tr.mk t1 ((M : Int) + far)) :: (⟨t2, 1⟩ :: ts) : List Tr).length ≤ 1000000 := by have h9 := HN.out; rw [HSh2.out] at h9; simp only [List.length_append, List.length_cons, List.length_nil] at h9 ⊢; omega
    have hMi : (0 : Int) < (M : Int) := by omega
    have hNi0 : (0 : Int) < (N : Int) := by omega
    have hNi1 : (1 : Int) < (N : Int) := by omega
    have HLn := Lib.hid hlen
    clear hx0 hx1 h2 h3 hset hlen
    have CT := Lib.hid (fun w h hE => ttext_any ⟨X.types, [Tr.mk t0 1] ++ (Tr.mk t1 ((M : Int) + far)) :: (⟨t2, 1⟩ :: ts), S⟩ (.slice (some ⟨g, 0, none⟩) M xc) (.slice (some ⟨q, 0, none⟩) N yc) (bs S) w h hE (by exact HLn.out))
    rw [textP_bad hchk (by decide)] at CT
    dsimp only at CT
    rw [show bs ([] : List UInt8) = (⟨#[]⟩ : ByteArray) from rfl] at CT
    have CC := Lib.hid (fun w h hE => tcheck_any ⟨X.types, [Tr.mk t0 1] ++ (Tr.mk t1 ((M : Int) + far)) :: (⟨t2, 1⟩ :: ts), S⟩ (.slice (some ⟨g, 0, none⟩) M xc) (.slice (some ⟨q, 0, none⟩) N yc) (bs S) w h hE)
    rw [hchk] at CC
    clear hchk
    obtain ⟨⟨x0, x1, x2⟩, _, _, _⟩ := row3 (KP.out.at 0 rfl)
    go_wp2_with fail
    refine (CT.out _ TB.out (HE.out.keep KP.out.below)).mono ?_
    rintro _ V5 ⟨rfl, hb⟩
    have KX := Lib.hid (KP.out.keep hb)
    have TBX := Lib.hid (TB.out.keep hb)
    clear hb x0 x1 x2
    obtain ⟨⟨x0, x1, x2⟩, _, _, _⟩ := row3 (KX.out.at 0 rfl)
    go_wp2_with fail
    refine (CC.out _ TBX.out (HE.out.keep KX.out.below)).mono ?_
    rintro _ V6 ⟨rfl, hb⟩
    have KY := Lib.hid (KX.out.keep hb)
    clear hb x0 x1 x2
    go_wp2_with fail
    refine (CW.out _ (HE.out.keep KY.out.below)).mono ?_
    rintro _ V7 ⟨rfl, hb⟩
    have KZ := Lib.hid (KY.out.keep hb)
    clear hb
    go_wp2_with fail
    go_ret
    exact ⟨rfl, KZ.out.below⟩
  · -- 12
    have hx0 : X.trans[0]? = some ⟨t0, 1⟩ := by rw [HSh2.out]; rfl
    have hx1 : X.trans[1]? = some ⟨t1, 2⟩ := by rw [HSh2.out]; rfl
    obtain ⟨c0, c1⟩ := tr_cell (K7.out.row 0 rfl) hx0
    obtain ⟨c2, c3⟩ := tr_cell (K7.out.row 0 rfl) hx1
    simp only [Nat.zero_mul, Nat.zero_add] at c0 c1
    simp only [Nat.one_mul] at c2 c3
    have h2 : transGo X.types.length 0 0 none (⟨t0, 1⟩ :: ⟨t1, 2⟩ :: (⟨t2, 1⟩ :: ts)) = 0 := by rw [← HSh2.out]; exact HR0.out
    have h3 := trans_two h2
    have f0 := K7.out.free hNp 1
    have KP := Lib.hid (K7.out.put hNp 1 (.int .i64 2))
    have hset : (X.trans.flatMap Tr.cells).set 1 (.int .i64 2) = ([] ++ (Tr.mk t0 2) :: (⟨t1, 2⟩ :: ⟨t2, 1⟩ :: ts)).flatMap Tr.cells := by rw [HSh2.out]; rfl
    have hchk : checkE ⟨X.types, [] ++ (Tr.mk t0 2) :: (⟨t1, 2⟩ :: ⟨t2, 1⟩ :: ts), S⟩ = 12 := check_trans_is HT0.out (show transGo X.types.length 0 0 none ([] ++ (Tr.mk t0 2) :: (⟨t1, 2⟩ :: ⟨t2, 1⟩ :: ts)) = 12 from h3.2.2.2) (by decide)
    have TB := Lib.hid (show TabV (wz.setCell ⟨q, 1, none⟩ (.int .i64 2)) (.slice (some ⟨g, 0, none⟩) M xc) (.slice (some ⟨q, 0, none⟩) N yc) (bs S) ⟨X.types, [] ++ (Tr.mk t0 2) :: (⟨t1, 2⟩ :: ⟨t2, 1⟩ :: ts), S⟩ from ⟨LcV.own (KP.out.row 1 rfl) rfl, TrV.own (B := W.heap.size) (e := 59) (n := X.trans.length) (by rw [← hset]; exact KP.out.row 0 rfl) (by rw [HSh2.out]; rfl), rfl, HF.out.lcs, mem_swap (x := Tr.mk t0 1) (a := []) (by have := HF.out.trs; rw [HSh2.out] at this; exact this) ⟨(HF.out.trs ⟨t0, 1⟩ (by rw [HSh2.out]; simp)).1, by kernel_rfl⟩⟩)
    have hlen : ([] ++ (Tr.mk t0 2) :: (⟨t1, 2⟩ :: ⟨t2, 1⟩ :: ts) : List Tr).length ≤ 1000000 := by have h9 := HN.out; rw [HSh2.out] at h9; simp only [List.length_append, List.length_cons, List.length_nil] at h9 ⊢; omega
    have hMi : (0 : Int) < (M : Int) := by omega
    have hNi0 : (0 : Int) < (N : Int) := by omega
    have hNi1 : (1 : Int) < (N : Int) := by omega
    have HLn := Lib.hid hlen
    clear hx0 hx1 h2 h3 hset hlen
    have CT := Lib.hid (fun w h hE => ttext_any ⟨X.types, [] ++ (Tr.mk t0 2) :: (⟨t1, 2⟩ :: ⟨t2, 1⟩ :: ts), S⟩ (.slice (some ⟨g, 0, none⟩) M xc) (.slice (some ⟨q, 0, none⟩) N yc) (bs S) w h hE (by exact HLn.out))
    rw [textP_bad hchk (by decide)] at CT
    dsimp only at CT
    rw [show bs ([] : List UInt8) = (⟨#[]⟩ : ByteArray) from rfl] at CT
    have CC := Lib.hid (fun w h hE => tcheck_any ⟨X.types, [] ++ (Tr.mk t0 2) :: (⟨t1, 2⟩ :: ⟨t2, 1⟩ :: ts), S⟩ (.slice (some ⟨g, 0, none⟩) M xc) (.slice (some ⟨q, 0, none⟩) N yc) (bs S) w h hE)
    rw [hchk] at CC
    clear hchk
    obtain ⟨⟨x0, x1, x2⟩, _, _, _⟩ := row3 (KP.out.at 0 rfl)
    go_wp2_with fail
    refine (CT.out _ TB.out (HE.out.keep KP.out.below)).mono ?_
    rintro _ V5 ⟨rfl, hb⟩
    have KX := Lib.hid (KP.out.keep hb)
    have TBX := Lib.hid (TB.out.keep hb)
    clear hb x0 x1 x2
    obtain ⟨⟨x0, x1, x2⟩, _, _, _⟩ := row3 (KX.out.at 0 rfl)
    go_wp2_with fail
    refine (CC.out _ TBX.out (HE.out.keep KX.out.below)).mono ?_
    rintro _ V6 ⟨rfl, hb⟩
    have KY := Lib.hid (KX.out.keep hb)
    clear hb x0 x1 x2
    go_wp2_with fail
    refine (CW.out _ (HE.out.keep KY.out.below)).mono ?_
    rintro _ V7 ⟨rfl, hb⟩
    have KZ := Lib.hid (KY.out.keep hb)
    clear hb
    go_wp2_with fail
    go_ret
    exact ⟨rfl, KZ.out.below⟩
end Go.Proofs.YtlaplgaccjmbhaaGreatDoor.Px
namespace Go.Proofs.YtlaplgaccjmbhaaGreatDoor.Px
open Go.RowKit
open Civ Tb
theorem tableSpoilt_walk (x : D40) (tv sv nv : Value) {W : World} (h : D40V W tv sv nv x) (hin : D40.In x) (hnT : ∀ c, tv = .slice none x.types.length c → c = 0) (hnS : ∀ c, sv = .slice none x.steps.length c → c = 0) (hlT : x.types.length * 2 ≤ 140737488351232) (hlS : x.steps.length * 4 ≤ 140737488351232)
    (n : Int) (hn : (Lit.int .u8 n).wf = true) (m : Int) (hm : (Lit.int .u32 m).wf = true) (hE : EnvAt W) :
    Calls Tryz.prog 11 #[d40val x tv sv nv, .int .u8 n, .int .u32 m] W fun e w' => e = .returned (.bool true) ∧ Below W.heap.size W w' := by
  obtain ⟨TY, ST, NX, be, fo, ba⟩ := x
  exact tableSpoilt_cells TY ST NX be fo ba tv sv nv n m W h hin hnT hnS hlT hlS (wf_u8 hn).1 (wf_u8 hn).2 (wf_u32 hm).1 (wf_u32 hm).2 hE
end Go.Proofs.YtlaplgaccjmbhaaGreatDoor.Px
namespace Go.Proofs.YtlaplgaccjmbhaaGreatDoor
open Go.ChangeShapes Go.WideShapes Go.ChangeAt Go.RowKit
open Go.ChangeMaps (open_string)
namespace tableSpoilt
theorem own : ownKnob Tryz.prog.godebug = none := by kernel_rfl
set_option maxRecDepth 100000 in
theorem lifted (os : Os) (started : os.Started) (H : Type) (enc : TypeId × Value → H) :
    ReturnsInHanded {} Tryz.checked os 11 .any (fun w args => (Rows.tableSpoiltSpec.pre enc Tryz.prog Tryz.f11 Rows.tableSpoiltRow.domain false w args ∧ laidMetH Tryz.prog Rows.tableSpoiltRow.laid w) ∧ sizedMet enc Tryz.prog Tryz.f11 (OpenSpec.ofChange Rows.tableSpoiltSpec) false w args)
      (Rows.tableSpoiltSpec.post enc Tryz.prog Tryz.f11 false true false false) := by
  refine returnsInHanded_of_change_and (C := Tryz.checked) (X := fun w _ => laidMetH Tryz.prog Rows.tableSpoiltRow.laid w) (fun _ _ _ hh h => h.of_heap hh) own started (by kernel_rfl) Tryz.func11
    (ChangeSpec.witness_shaped (enc := enc) (C := Tryz.checked) (os := os) (X := fun w _ => laidMetH Tryz.prog Rows.tableSpoiltRow.laid w) false ((World.doorLaid Tryz.prog 4000 os).layVars Tryz.prog [("unicode/utf8.first", Rows.laid_unicode_utf8_first)]) #[.agg #[.slice none 0 0, .slice none 0 0, .slice none 0 0, .int .i32 0, .int .u8 0, .int .u8 0], .int .u8 0, .int .u32 0] 8 (door_os os)
      (World.shaped_of_ZipB (by kernel_rfl) (by kernel_rfl)) (by kernel_rfl) (by kernel_rfl) (by kernel_rfl) (door_met os _)) ?_
  intro W base args ds gs before hval0 hW _ hZ hL _
  have hval : ∀ (j : Nat) t v, Tryz.f11.params[j]? = some t → args[j]? = some v → Value.okWide Tryz.prog W .any base t v := hval0
  have hEnv : Px.EnvAt W := Px.env_of hL
  have hW' := hW
  obtain ⟨p, q, hA0, hV, rfl, _, _⟩ := hW
  have hA : DataW.TrodAll enc Tryz.prog W 0 (fun _ => true) true Tryz.f11.params.toList args.toList ds p := hA0
  rw [Tryz.params11] at hA hval hZ
  obtain ⟨v0, vs0, d0, ds0, p0, q0, hargs, rfl, rfl, h0, r0⟩ := trodAll_cons hA
  obtain ⟨v1, vs1, d1, ds1, p1, q1, rfl, rfl, rfl, h1, r1⟩ := trodAll_cons r0
  obtain ⟨v2, vs2, d2, ds2, p2, q2, rfl, rfl, rfl, h2, r2⟩ := trodAll_cons r1
  obtain ⟨rfl, rfl, rfl⟩ := trodAll_nil r2
  obtain rfl : args = #[v0, v1, v2] := by cases args; simp_all
  obtain ⟨rfl, rfl⟩ := trodVars_none hV
  have hz0 : (DataW.weights Tryz.prog 75 d0).all (· ≤ reachBytes) = true := List.all_eq_true.2 fun z hz => List.all_eq_true.1 hZ z (DataW.weights_mem_each (j := 0) rfl rfl z hz)
  obtain ⟨x0, tv0, sv0, nv0, rfl, hx0, hd0, hnt0, hns0, hlt0, hls0⟩ := Px.open_d40n (hval 0 75 v0 rfl rfl) h0 hz0
  obtain ⟨n1, rfl, rfl, rfl, hn1⟩ := open_int Tryz.underlying5 (hval 1 5 v1 rfl rfl) h1
  obtain ⟨n2, rfl, rfl, rfl, hn2⟩ := open_int Tryz.underlying55 (hval 2 55 v2 rfl rfl) h2
  refine (Px.tableSpoilt_walk x0 tv0 sv0 nv0 hx0 hd0 hnt0 hns0 hlt0 hls0 n1 hn1 n2 hn2 hEnv).mono fun e W' ⟨he, hB⟩ => ?_
  subst he
  refine ⟨_, rfl, post_law (by kernel_rfl) ?_ rfl hW' rfl rfl Tryz.underlying4 hB⟩
  rw [Tryz.params11]
  intro t ht
  have hall : ([75, 5, 55].all fun u => Tryz.prog.readableRec u && decide (u < Tryz.prog.types.size)) = true := by kernel_rfl
  have h1 := List.all_eq_true.1 hall t ht
  have h2 : Tryz.prog.readableRec t = true ∧ t < Tryz.prog.types.size := by simpa using h1
  exact h2
set_option maxHeartbeats 8000000 in
theorem facts : joinedFacts Tryz.pinned.checked.prog 11 Tryz.f11 Rows.tableSpoiltSpec Rows.tableSpoiltRow = true := by
  simp only [joinedFacts, Bool.and_eq_true]
  and_intros
  all_goals (as_aux_lemma => kernel_rfl)
theorem named : Tryz.pinned.checked.prog.funcNamed Rows.tableSpoiltRow.func = some 11 := by kernel_rfl
theorem said : Rows.TableSpoiltSaid :=
  OpenClaim.holds_of_wide 11 Tryz.f11 rfl rfl rfl rfl rfl rfl rfl ⟨rfl, rfl, rfl, rfl, rfl⟩ rfl rfl rfl rfl rfl named Tryz.func11 facts
    (of_decide_eq_true (by kernel_rfl)) (by unfold Func.isWrapper; first | (rw [if_pos (by decide +kernel)]; kernel_rfl) | (rw [if_neg (by decide +kernel)]; exact ⟨rfl, rfl⟩))
    (fun os started H enc _ => lifted os started H enc)
theorem plain (f : FuncId) (fn : Func) (hf : Tryz.pinned.checked.prog.funcNamed "analemma/analemmalaw40.TableSpoilt" = some f) (hfn : Tryz.pinned.checked.prog.funcs[f]? = some fn) :
    true = Tryz.pinned.checked.prog.looks [] ∧ ∀ (j : Nat) t, fn.params[j]? = some t → Tryz.pinned.checked.prog.wantsStandIn t = false := by
  obtain rfl : f = 11 := Option.some.inj ((show Tryz.prog.funcNamed "analemma/analemmalaw40.TableSpoilt" = some 11 by kernel_rfl).symm.trans hf) |>.symm
  obtain rfl : fn = Tryz.f11 := (Option.some.inj (Tryz.func11.symm.trans hfn)).symm
  refine ⟨by kernel_rfl, fun j t ht => ?_⟩
  rw [Tryz.params11] at ht
  have hm : t ∈ [75, 5, 55] := by simpa using Array.mem_of_getElem? ht
  have hall : ([75, 5, 55].all fun u => !Tryz.prog.wantsStandIn u) = true := by kernel_rfl
  exact (show Tryz.prog.wantsStandIn t = false by simpa using List.all_eq_true.1 hall t hm)
theorem card : Rows.TableSpoiltCardSaid :=
  Claim7.holds_tied_plain_at .later [] _ _ _ _ said (fun _ h => by cases h) (by kernel_rfl) (fun _ h => by cases h) tableSpoilt_row_tie rfl ⟨rfl, rfl⟩ (by kernel_rfl) rfl plain (by kernel_rfl)
end tableSpoilt
#print axioms tableSpoilt.card
end Go.Proofs.YtlaplgaccjmbhaaGreatDoor

