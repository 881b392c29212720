/- The function tzif.Encode: the data of a right table. -/
import Derived.Test.YtkpmmabdpeobaaaGreatDoorSV2
import Derived.Deep.RegionHeldLaw
namespace Go.Proofs.YtkpmmabdpeobaaaGreatDoor.Px
open Go.RowKit
open Tz Tb Civ
theorem names_len (ts : List Lc) : (names ts).length = ts.length := List.length_map ..
theorem names_fit {x : Tab} (h : checkE x = 0) : ∀ l ∈ names x.types, l.length ≤ 1000000 := fun l hl => by
 obtain ⟨t, ht, rfl⟩ := List.mem_map.1 hl
 have := name_len (right_lc h t ht).2
 omega
set_option maxHeartbeats 8000000 in
set_option maxRecDepth 100000 in
theorem encode_ok (x : Tab) (tv rv : Value) (f : ByteArray) (v mx : Int) (W : World) (h : TabV W tv rv f x) (hE : EnvAt W) (hmx : W.cell? ⟨1, 0, none⟩ = some (.int .i64 mx)) (h1 : checkE x = 0) (hv : ¬ (v < versT x ∨ 4 < v)) (hmax : x.trans.length ≤ 10000) :
 Calls Tryz.prog 17 #[.agg #[tv, rv, .string f], .int .i64 v] W fun e w' => ∃ ov, e = .returned (.tuple #[ov, .int .i64 0]) ∧ Kp [] [bRow ov (encB x v)] W w' := by
 have CV := Lib.hid (fun w h hE => version_any x tv rv f w h hE)
 rw [versE_ok h1] at CV
 obtain ⟨hpE, hpl, hpx⟩ := pool_right h1
 have CA := Lib.hid (fun u w hV hm => abbrs_any (names x.types) u w mx hV (by rw [names_len]; have := (typesE_zero (right_types h1)).2.1; omega) (names_fit h1) hm)
 rw [hpE, show Po.abbrsS (names x.types) = poolT x by unfold Po.abbrsS; rw [if_pos hpE]; rfl, show Po.abbrsA (names x.types) = x.types.map (plc (poolT x)) by unfold Po.abbrsA; rw [if_pos hpE]; unfold names; rw [List.map_map]; rfl] at CA
 have hL := fun h0 => h.types.all h0
 have hR := fun h0 => h.trans.all h0
 obtain ⟨ta, tc, htv, _, _⟩ := h.types.slice
 obtain ⟨ra, rc, hrv, _, _⟩ := h.trans.slice
 obtain ⟨M, hM⟩ : ∃ n, x.types.length = n := ⟨_, rfl⟩
 obtain ⟨N, hN⟩ : ∃ n, x.trans.length = n := ⟨_, rfl⟩
 rw [hM] at htv hL
 rw [hN] at hrv hR hmax
 subst htv hrv
 have hM2 : M ≤ 254 := by rw [← hM]; exact (typesE_zero (right_types h1)).2.1
 have HM := Lib.hid hM
 have HN := Lib.hid hN
 have HL := Lib.hid hL
 have HR := Lib.hid hR
 have HT := Lib.hid h
 have HE := Lib.hid hE
 have HC := Lib.hid h1
 have hmlt := block_lt_of_cell hmx
 have HMx := Lib.hid (fun (Y : World) (hB : Below W.heap.size W Y) => (hB.cell (p := ⟨1, 0, none⟩) hmlt).trans hmx)
 have K0 := Lib.hid ((Kp.start W).alloc (.cells #[.slice ta M tc, .slice ra N rc, .string f] 25))
 have hv2 : 2 ≤ v ∧ v ≤ 4 := by have := versT_two x; omega
 have HV := Lib.hid hv
 obtain ⟨E, hE2⟩ : ∃ E, versT x = E := ⟨_, rfl⟩
 rw [hE2] at CV hv
 have hv3 : ¬ v < E := by omega
 have hv4 : ¬ 4 < v := by omega
 obtain ⟨P, hP⟩ : ∃ P, poolT x = P := ⟨_, rfl⟩
 rw [hP] at CA hpl hpx
 have HP := Lib.hid hP
 have HPx := Lib.hid hpx
 obtain ⟨S, hS⟩ : ∃ S, bs P = S := ⟨_, rfl⟩
 have HS := Lib.hid hS
 rw [hS] at CA
 have HB := Lib.hid (show encB x v = encB x v from rfl)
 obtain ⟨v0, v9⟩ := hv2
 dsimp only at CV
 clear hE2 h hM hN hE h1 hL hR hmx hmlt hpE hpx hP hS hv HV
 go_enter Tryz.func17, Tryz.ntmps17
 go_wp2_with fail
 refine (CV.out _ (HT.out.keep K0.out.below) (HE.out.keep K0.out.below)).mono ?_
 rintro _ V ⟨rfl, hb⟩
 have K1 := Lib.hid (K0.out.keep hb)
 clear hb K0 CV
 go_upto_region 7 with fail
 obtain ⟨⟨x0, x1, x2⟩, _, _, _⟩ := row3 (K1.out.at 0 rfl)
 go_wp2_with fail
 go_loopw [8, 38] (fun v8 v38 wr => ∃ i : Nat, i ≤ M ∧ v38 = .int .i64 (i : Int) ∧ Kp [(W.heap.size, .cells #[.slice ta M tc, .slice ra N rc, .string f] 25 (0, 0))] [sRow v8 ((names x.types).take i)] W wr) (fun _ v38 _ => M - (intOf v38).toNat)
 case atStart =>
  refine ⟨0, by omega, rfl, ?_⟩
  rw [List.take_zero]
  exact K1.out.fresh 9 1
 case round =>
  obtain ⟨i, hi, rfl, hk⟩ := hrel
  obtain ⟨oa, oc, rfl⟩ := sRow_slice (hk.row 0 rfl)
  have KR := Lib.hid hk
  clear hk K1 x0 x1 x2
  by_cases hlt : i < M
  · obtain ⟨⟨lo, ld, lb⟩, hx⟩ : ∃ t, x.types[i]? = some t := ⟨_, List.getElem?_eq_getElem (by rw [HM.out]; exact hlt)⟩
    obtain ⟨b, o, c, e1, _, _, hb, hcell⟩ := HL.out (by omega)
    simp only [Value.slice.injEq] at e1
    obtain ⟨rfl, -, -⟩ := e1
    obtain ⟨c0, c1, c2⟩ := hcell i _ hx
    dsimp only at c0 c1 c2
    have k0 := (KR.out.below.cell (p := ⟨b, o + i * 3, none⟩) hb).trans c0
    have k1 := (KR.out.below.cell (p := ⟨b, o + i * 3 + 1, none⟩) hb).trans c1
    have k2 := (KR.out.below.cell (p := ⟨b, o + i * 3 + 2, none⟩) hb).trans c2
    have HTK := Lib.hid (show (names x.types).take (i + 1) = (names x.types).take i ++ [lb.data.toList] by unfold names; rw [List.take_add_one, List.getElem?_map, hx]; rfl)
    obtain ⟨l1, hl1⟩ : ∃ l, (names x.types).take i = l := ⟨_, rfl⟩
    have hll : l1.length ≤ 254 := by rw [← hl1, List.length_take]; omega
    have KR2 := KR.out
    rw [hl1] at HTK KR2 ⊢
    have KR2 := Lib.hid KR2
    clear hx hcell c0 c1 c2 hl1 KR
    go_upto_region 10 with fail
    have KA := KR2.out.alloc (.cells #[.int .i64 lo, .bool ld, .string lb] 28)
    obtain ⟨wa, hwa⟩ : ∃ z, wr.alloc (.cells #[.int .i64 lo, .bool ld, .string lb] 28) = z := ⟨_, rfl⟩
    obtain ⟨q, hq⟩ : ∃ z, wr.heap.size = z := ⟨_, rfl⟩
    rw [hwa, hq] at KA ⊢
    obtain ⟨⟨x0, x1, x2⟩, _, _, _⟩ := row3 (KA.at 0 rfl)
    obtain ⟨v', w2, hr, hk2⟩ := append_name KA lb (by omega)
    have HRn := Lib.hid hr
    have K2 := Lib.hid hk2.drop
    clear hwa hq k0 k1 k2 hr hk2 KA
    go_wp2_with (at_builtin; refine wpList_append_run rfl _ _ 74 74 rfl _ _ v' w2 rfl rfl HRn.out ?_)
    go_roundw
    case rel =>
     refine ⟨i + 1, by omega, by go_num, ?_⟩
     rw [HTK.out]
     exact K2.out
    case measure => simp [intOf]; omega
  · obtain rfl : i = M := by omega
    have hlen : (names x.types).length = i := by rw [names_len]; exact HM.out
    have KR2 := KR.out
    rw [List.take_of_length_le (by omega)] at KR2 ⊢
    rw [hlen] at KR2 ⊢
    go_wp2_with fail
    refine (CA.out _ wr (show SlV wr (.slice oa i oc) 1 (names x.types).length ((names x.types).map sv) from SlV.of_own (KR2.row 0 rfl)) (HMx.out _ KR2.below)).mono ?_
    rintro _ w1 ⟨pv, rfl, hk⟩
    have hpl2 : (x.types.map (plc P)).length = i := by rw [List.length_map]; exact HM.out
    rw [hpl2] at hk
    have K2 := (KR2.adopt hk).less (S := [⟨pv, 3, 1, i, (x.types.map (plc P)).map (Value.int .i64)⟩]) (List.Sublist.cons_cons _ (List.nil_sublist _))
    obtain ⟨pa, pc, rfl⟩ : ∃ a c, pv = .slice a i c := own_slice (K2.row 0 rfl)
    have K2 := Lib.hid K2
    clear hk KR KR2 CA hpl2 hlen
    go_upto_region 16 with fail
    have K3 := ((K2.out.alloc (.cells #[.slice none 0 0, .int .i64 0] 79)).fresh 5 1)
    obtain ⟨X, hX⟩ : ∃ Z, w1.alloc (.cells #[.slice none 0 0, .int .i64 0] 79) = Z := ⟨_, rfl⟩
    obtain ⟨wb, hwb⟩ : ∃ Z, w1.heap.size = Z := ⟨_, rfl⟩
    rw [hX, hwb] at K3 ⊢
    have CH := Lib.hid (head_any 0 wb (.slice none 0 0) [] v 0 1 1 K3 rfl (by omega) (by omega) (by omega) (by omega) (by simp))
    clear hX hwb K2 K3
    go_wp2_with fail
    refine CH.out.mono ?_
    rintro _ w2 ⟨rfl, ov, hk⟩
    rw [List.nil_append, List.set_cons_zero] at hk
    obtain ⟨l1, hl1⟩ : ∃ l, headB v 0 1 1 = l := ⟨_, rfl⟩
    have hn1 : l1.length = 44 := by rw [← hl1]; exact headB_len _ _ _ _
    rw [hl1] at hk
    have HL1 := Lib.hid hl1
    obtain ⟨a1, c1, rfl⟩ := bRow_slice (hk.row 0 rfl)
    have kw := cells_at (hk.at 0 rfl) 0
    obtain ⟨v2, w3, hr2, hk2⟩ := append_zeros hk 7 (by omega) (by rw [hn1]; omega)
    rw [bRow_is v2 _ (by rw [List.length_append, List.length_replicate])] at hk2
    obtain ⟨l2, hl2⟩ : ∃ m, l1 ++ List.replicate 7 0 = m := ⟨_, rfl⟩
    have hn2 : l2.length = 51 := by rw [← hl2, List.length_append, hn1]; rfl
    rw [hl2] at hk2
    have HL2 := Lib.hid hl2
    obtain ⟨a2, c2, rfl⟩ := bRow_slice (hk2.row 0 rfl)
    have kw1 := cells_at (hk2.at 0 rfl) 0
    have kf1 := free_at (hk2.at 0 rfl) 0
    have kz1 := hk2.lt 0 rfl
    have K4 := wr_store (k := 0) (v := .slice a2 l2.length c2) hk2 rfl
    rw [List.set_cons_zero] at K4
    obtain ⟨X2, hX2⟩ : ∃ Z, w3.setCell ⟨wb, 0, none⟩ (.slice a2 l2.length c2) = Z := ⟨_, rfl⟩
    rw [hX2] at K4
    have HX2 := Lib.hid hX2
    have HR2 := Lib.hid hr2
    obtain ⟨⟨x0, x1, x2⟩, _, _, _⟩ := row3 (K4.at 1 rfl)
    have K4 := Lib.hid K4
    have HN2 := Lib.hid hn2
    clear hk hk2 hr2 hX2 CH hl1 hl2 hn1 hn2
    go_upto_region 18 with (at_builtin; refine wpList_append_run rfl _ _ 32 3 rfl _ _ _ w3 rfl rfl HR2.out ?_)
    rw [HX2.out]
    clear kw kw1 kf1 kz1 HR2 HX2
    have hSz : S.size = P.length := by rw [← HS.out]; exact bs_size P
    have HSz := Lib.hid hSz
    have CH := Lib.hid (head_any 0 wb (.slice a2 l2.length c2) l2 v (N : Int) (i : Int) (S.size : Int) K4.out rfl (by omega) (by omega) (by omega) (by omega) (by rw [HN2.out]; omega))
    have hS63 : S.size ≤ 255 := by omega
    clear hSz K4
    go_wp2_with fail
    refine CH.out.mono ?_
    rintro _ w4 ⟨rfl, ov, hk⟩
    rw [List.set_cons_zero] at hk
    obtain ⟨l3, hl3⟩ : ∃ l, l2 ++ headB v N i S.size = l := ⟨_, rfl⟩
    have hn3 : l3.length = 95 := by rw [← hl3, List.length_append, HN2.out, headB_len]
    rw [hl3] at hk
    have HL3 := Lib.hid hl3
    have HN3 := Lib.hid hn3
    have K5 := Lib.hid hk
    clear hk CH hl3 hn3 x0 x1 x2
    obtain ⟨⟨x0, x1, x2⟩, _, _, _⟩ := row3 (K5.out.at 1 rfl)
    go_upto_region 19 with fail
    go_wp2_with fail
    go_loopw [84] (fun v84 wr => ∃ (j : Nat) (ov : Value), j ≤ N ∧ v84 = .int .i64 (j : Int) ∧ Kp [(wb, wrO ov), (W.heap.size, .cells #[.slice ta i tc, .slice ra N rc, .string f] 25 (0, 0))] [bRow ov (l3 ++ (x.trans.take j).flatMap (fun t => beN 8 t.at')), ⟨.slice pa i pc, 3, 1, i, (x.types.map (plc P)).map (Value.int .i64)⟩] W wr) (fun v84 _ => N - (intOf v84).toNat)
    case atStart =>
     refine ⟨0, ov, by omega, rfl, ?_⟩
     rw [List.take_zero, List.flatMap_nil, List.append_nil]
     exact K5.out
    case round =>
     obtain ⟨j, ov, hj, rfl, hk⟩ := hrel
     have KR := Lib.hid hk
     clear hk K5 x0 x1 x2
     by_cases hlt : j < N
     · obtain ⟨⟨t0, t1⟩, hx⟩ : ∃ t, x.trans[j]? = some t := ⟨_, List.getElem?_eq_getElem (by rw [HN.out]; exact hlt)⟩
       obtain ⟨b, o, c, e1, _, _, hb, hcell⟩ := HR.out (by omega)
       simp only [Value.slice.injEq] at e1
       obtain ⟨rfl, -, -⟩ := e1
       obtain ⟨c0, c1'⟩ := hcell j _ hx
       dsimp only at c0 c1'
       have k0 := (KR.out.below.cell (p := ⟨b, o + j * 2, none⟩) hb).trans c0
       have k1 := (KR.out.below.cell (p := ⟨b, o + j * 2 + 1, none⟩) hb).trans c1'
       have HTK := Lib.hid (show x.trans.take (j + 1) = x.trans.take j ++ [⟨t0, t1⟩] by rw [List.take_add_one, hx]; rfl)
       have hrng := (right_ty HC.out).rng _ (List.mem_of_getElem? hx)
       have hty := (right_ty HC.out).ty _ (List.mem_of_getElem? hx)
       rw [HM.out] at hty
       dsimp only at hrng hty
       obtain ⟨r0, r1⟩ := hrng
       obtain ⟨y0, y1⟩ := hty
       obtain ⟨la1, hla⟩ : ∃ l, l3 ++ (x.trans.take j).flatMap (fun t => beN 8 t.at') = l := ⟨_, rfl⟩
       have hla2 : la1.length ≤ 200000 := by
        rw [← hla, List.length_append, rows_len (w := 8) _ (fun _ _ => beN_len _ _), List.length_take, HN.out]
        have := HN3.out
        omega
       have hla := Lib.hid hla
       have KR2 := KR.out
       rw [hla.out] at KR2
       go_upto_region 22 with fail
       have KA := KR2.alloc (.cells #[.int .i64 t0, .int .i64 t1] 36)
       obtain ⟨wa, hwa⟩ : ∃ z, wr.alloc (.cells #[.int .i64 t0, .int .i64 t1] 36) = z := ⟨_, rfl⟩
       obtain ⟨q, hq⟩ : ∃ z, wr.heap.size = z := ⟨_, rfl⟩
       rw [hwa, hq] at KA ⊢
       obtain ⟨x0, x1⟩ := row2 (KA.at 0 rfl)
       have CP1 := Lib.hid (wput_any 1 wb wa.heap.size ov la1 [t0] 8 (KA.alloc (.cells #[.int .i64 t0] 2)) rfl (by omega) (fun y hy => .inr (by rw [List.mem_singleton.1 hy]; exact fits_8 (by omega) (by omega))) (fun y hy => by rw [List.mem_singleton.1 hy]; omega) (by show la1.length + 8 ≤ 900000; omega))
       clear hwa hq k0 k1 hx hcell c0 c1' KR KR2 KA
       go_wp2_with fail
       refine CP1.out.mono ?_
       rintro _ w5 ⟨rfl, ov1, hk1⟩
       rw [show [t0].flatMap (beN 8) = beN 8 t0 by simp] at hk1
       have K1 := Lib.hid (show Kp [(wb, wrO ov1), (W.heap.size, .cells #[.slice ta i tc, .slice (some ⟨b, o, none⟩) N rc, .string f] 25 (0, 0))] _ W w5 from hk1.drop.drop)
       clear hk1 CP1 x0 x1
       go_wp2_with fail
       go_roundw
       case rel =>
        refine ⟨j + 1, ov1, by omega, by go_num, ?_⟩
        rw [HTK.out, List.flatMap_append, ← List.append_assoc, hla.out, List.flatMap_cons, List.flatMap_nil, List.append_nil]
        exact K1.out
       case measure => simp [intOf]; omega
     · obtain rfl : j = N := by omega
       have KR2 := KR.out
       rw [List.take_of_length_le (by rw [HN.out]; exact Nat.le_refl _)] at KR2
       obtain ⟨l4, hl4⟩ : ∃ l, l3 ++ x.trans.flatMap (fun t => beN 8 t.at') = l := ⟨_, rfl⟩
       have hn4 : l4.length = 95 + 8 * j := by rw [← hl4, List.length_append, rows_len (w := 8) _ (fun _ _ => beN_len _ _), HN3.out, HN.out]
       rw [hl4] at KR2
       have HL4 := Lib.hid hl4
       have HN4 := Lib.hid hn4
       have K6 := Lib.hid KR2
       clear KR KR2 hl4 hn4
       obtain ⟨⟨x0, x1, x2⟩, _, _, _⟩ := row3 (K6.out.at 1 rfl)
       go_wp2_with fail
       go_loopw [97] (fun v97 wr => ∃ (m : Nat) (ov : Value), m ≤ j ∧ v97 = .int .i64 (m : Int) ∧ Kp [(wb, wrO ov), (W.heap.size, .cells #[.slice ta i tc, .slice ra j rc, .string f] 25 (0, 0))] [bRow ov (l4 ++ (x.trans.take m).flatMap (fun t => beN 1 t.ty)), ⟨.slice pa i pc, 3, 1, i, (x.types.map (plc P)).map (Value.int .i64)⟩] W wr) (fun v97 _ => j - (intOf v97).toNat)
       case atStart =>
        refine ⟨0, ov, by omega, rfl, ?_⟩
        rw [List.take_zero, List.flatMap_nil, List.append_nil]
        exact K6.out
       case round =>
        obtain ⟨m, ov, hm, rfl, hk⟩ := hrel
        have KR := Lib.hid hk
        clear hk K6 x0 x1 x2
        by_cases hlt : m < j
        · obtain ⟨⟨t0, t1⟩, hx⟩ : ∃ t, x.trans[m]? = some t := ⟨_, List.getElem?_eq_getElem (by rw [HN.out]; exact hlt)⟩
          obtain ⟨b, o, c, e1, _, _, hb, hcell⟩ := HR.out (by omega)
          simp only [Value.slice.injEq] at e1
          obtain ⟨rfl, -, -⟩ := e1
          obtain ⟨c0, c1'⟩ := hcell m _ hx
          dsimp only at c0 c1'
          have k0 := (KR.out.below.cell (p := ⟨b, o + m * 2, none⟩) hb).trans c0
          have k1 := (KR.out.below.cell (p := ⟨b, o + m * 2 + 1, none⟩) hb).trans c1'
          have HTK := Lib.hid (show x.trans.take (m + 1) = x.trans.take m ++ [⟨t0, t1⟩] by rw [List.take_add_one, hx]; rfl)
          have hrng := (right_ty HC.out).rng _ (List.mem_of_getElem? hx)
          have hty := (right_ty HC.out).ty _ (List.mem_of_getElem? hx)
          rw [HM.out] at hty
          dsimp only at hrng hty
          obtain ⟨r0, r1⟩ := hrng
          obtain ⟨y0, y1⟩ := hty
          obtain ⟨la1, hla⟩ : ∃ l, l4 ++ (x.trans.take m).flatMap (fun t => beN 1 t.ty) = l := ⟨_, rfl⟩
          have hla2 : la1.length ≤ 200000 := by
           rw [← hla, List.length_append, rows_len (w := 1) _ (fun _ _ => beN_len _ _), List.length_take, HN.out]
           have := HN4.out
           omega
          have hla := Lib.hid hla
          have KR2 := KR.out
          rw [hla.out] at KR2
          go_upto_region 27 with fail
          have KA := KR2.alloc (.cells #[.int .i64 t0, .int .i64 t1] 36)
          obtain ⟨wa, hwa⟩ : ∃ z, wr.alloc (.cells #[.int .i64 t0, .int .i64 t1] 36) = z := ⟨_, rfl⟩
          obtain ⟨q, hq⟩ : ∃ z, wr.heap.size = z := ⟨_, rfl⟩
          rw [hwa, hq] at KA ⊢
          obtain ⟨x0, x1⟩ := row2 (KA.at 0 rfl)
          have CP1 := Lib.hid (wput_any 1 wb wa.heap.size ov la1 [t1] 1 (KA.alloc (.cells #[.int .i64 t1] 2)) rfl (by omega) (fun y hy => .inl rfl) (fun y hy => by rw [List.mem_singleton.1 hy]; omega) (by show la1.length + 8 ≤ 900000; omega))
          clear hwa hq k0 k1 hx hcell c0 c1' KR KR2 KA
          go_wp2_with fail
          refine CP1.out.mono ?_
          rintro _ w5 ⟨rfl, ov1, hk1⟩
          rw [show [t1].flatMap (beN 1) = beN 1 t1 by simp] at hk1
          have K1 := Lib.hid (show Kp [(wb, wrO ov1), (W.heap.size, .cells #[.slice ta i tc, .slice (some ⟨b, o, none⟩) j rc, .string f] 25 (0, 0))] _ W w5 from hk1.drop.drop)
          clear hk1 CP1 x0 x1
          go_wp2_with fail
          go_roundw
          case rel =>
           refine ⟨m + 1, ov1, by omega, by go_num, ?_⟩
           rw [HTK.out, List.flatMap_append, ← List.append_assoc, hla.out, List.flatMap_cons, List.flatMap_nil, List.append_nil]
           exact K1.out
          case measure => simp [intOf]; omega
        · obtain rfl : m = j := by omega
          have KR2 := KR.out
          rw [List.take_of_length_le (by rw [HN.out]; exact Nat.le_refl _)] at KR2
          obtain ⟨l5, hl5⟩ : ∃ l, l4 ++ x.trans.flatMap (fun t => beN 1 t.ty) = l := ⟨_, rfl⟩
          have hn5 : l5.length = 95 + 9 * m := by rw [← hl5, List.length_append, rows_len (w := 1) _ (fun _ _ => beN_len _ _), HN4.out, HN.out]; omega
          rw [hl5] at KR2
          have HL5 := Lib.hid hl5
          have HN5 := Lib.hid hn5
          have K7 := Lib.hid KR2
          clear KR KR2 hl5 hn5
          obtain ⟨⟨x0, x1, x2⟩, _, _, _⟩ := row3 (K7.out.at 1 rfl)
          have CT := Lib.hid (wtypes_any 0 wb ov l5 x.types (.slice ta i tc) (.slice pa i pc) P 0 K7.out rfl HT.out.types (by rw [HM.out]; rfl) (fun t ht => by have := (right_lc HC.out t ht).1; omega) (fun t ht => by
           obtain ⟨k, hk, hk2, _⟩ := HPx.out t ht
           omega) (by rw [HM.out]; omega) (by rw [HN5.out]; omega) (by omega))
          rw [HS.out] at CT
          go_wp2_with fail
          refine CT.out.mono ?_
          rintro _ w8 ⟨rfl, ov6, hk⟩
          rw [List.set_cons_zero] at hk
          obtain ⟨l6, hl6⟩ : ∃ l, l5 ++ (x.types.flatMap (typB P) ++ P) = l := ⟨_, rfl⟩
          have hn6 : l6.length ≤ 200000 := by
           rw [← hl6, List.length_append, List.length_append, HN5.out, rows_len (w := 6) _ (fun _ _ => typB_len _ _), HM.out]
           omega
          rw [hl6] at hk
          have HL6 := Lib.hid hl6
          obtain ⟨a6, c6, rfl⟩ := bRow_slice (hk.row 0 rfl)
          have hfs : f.size ≤ 100 := by rw [HT.out.foot, bs_size]; exact (right_foot HC.out).2
          have HF := Lib.hid (show f.data.toList = x.foot by rw [HT.out.foot]; rfl)
          obtain ⟨v9, w9, hr9, hk9⟩ := append_str hk.drew (⟨#[10]⟩ ++ f ++ ⟨#[10]⟩) (by rw [ByteArray.size_append, ByteArray.size_append]; show l6.length + (1 + f.size + 1) ≤ 1000000; omega)
          have e9 : (⟨#[10]⟩ ++ f ++ ⟨#[10]⟩ : ByteArray).data.toList = 10 :: (x.foot ++ [10]) := by
           rw [ByteArray.data_append, ByteArray.data_append, Array.toList_append, Array.toList_append, HF.out]
           simp
          rw [e9, bRow_is v9 _ (by rw [List.length_append, ← e9]; rfl)] at hk9
          obtain ⟨l7, hl7⟩ : ∃ l, l6 ++ 10 :: (x.foot ++ [10]) = l := ⟨_, rfl⟩
          rw [hl7] at hk9
          obtain ⟨a9, c9, rfl⟩ := bRow_slice (hk9.row 0 rfl)
          have HL7 := Lib.hid (show l7 = encB x v by
           rw [← hl7, ← HL6.out, ← HL5.out, ← HL4.out, ← HL3.out, ← HL2.out, ← HL1.out]
           unfold encB bodyB
           rw [HP.out, HN.out, HM.out, ← HSz.out]
           simp only [List.append_assoc])
          have kw := cells_at (hk.at 0 rfl) 0
          obtain ⟨⟨x0', x1', x2'⟩, _, _, _⟩ := row3 (hk.at 1 rfl)
          have kw1 := cells_at (hk9.at 0 rfl) 0
          have kv1 := cells_at (hk9.at 0 rfl) 1
          have kf1 := free_at (hk9.at 0 rfl) 0
          have kz1 := hk9.lt 0 rfl
          have K9 := wr_store (k := 0) (v := .slice a9 l7.length c9) hk9 rfl
          have HRa := Lib.hid hr9
          have K9 := Lib.hid K9
          have g1 : ¬ 9223372036854775807 < 1 + f.size := by omega
          have g2 : ¬ 9223372036854775807 < 1 + f.size + 1 := by omega
          clear hk hk9 hr9 e9 hl7 hl6 hn6 CT x0 x1 x2 K7
          go_upto_region 30 with fail
          go_region_law (first
           | (refine step_append_run (by rfl) (.tmp 117) (.tmp 121) 32 9 (by rfl) _ _ _ w9 (by rfl) (by rfl) HRa.out ?_))
          all_goals
           obtain ⟨X9, hX9⟩ : ∃ Z, w9.setCell ⟨wb, 0, none⟩ (.slice a9 l7.length c9) = Z := ⟨_, rfl⟩
           rw [hX9] at K9 ⊢
           have y0 := cells_at (K9.out.at 0 rfl) 0
           have y1 := cells_at (K9.out.at 0 rfl) 1
           clear kw x0' x1' x2' kw1 kv1 kf1 kz1 HRa g1 g2 hX9
           go_wp2_with fail
           refine bodyPost_ret (v := .tuple #[.slice a9 l7.length c9, .int .i64 0]) (by simp [results, Tryz.results17, go_sem]) rfl ⟨_, rfl, ?_⟩
           rw [← HL7.out]
           exact (K9.out.pick (List.nil_sublist _)).less (List.Sublist.cons_cons _ (List.nil_sublist _))
structure Env42 (W : World) : Prop where
 env : EnvAt W
 max : ∃ mx, W.cell? ⟨1, 0, none⟩ = some (.int .i64 mx)
theorem Env42.keep {W W' : World} (h : Env42 W) (hB : Below W.heap.size W W') : Env42 W' := by
 obtain ⟨h1, mx, h2⟩ := h
 exact ⟨h1.keep hB, mx, (hB.cell (p := ⟨1, 0, none⟩) (block_lt_of_cell h2)).trans h2⟩
theorem encode_any (x : Tab) (tv rv : Value) (f : ByteArray) (v : Int) (W : World) (h : TabV W tv rv f x) (hE : Env42 W) (hmax : x.trans.length ≤ 10000) :
 Calls Tryz.prog 17 #[.agg #[tv, rv, .string f], .int .i64 v] W fun e w' => ∃ ov, e = .returned (.tuple #[ov, .int .i64 (encE x v).2]) ∧ Kp [] [bRow ov (encE x v).1] W w' := by
 by_cases h1 : (encE x v).2 = 0
 · obtain ⟨hE1, mx, hE2⟩ := hE
   by_cases h2 : checkE x = 0
   · by_cases h3 : v < versT x ∨ 4 < v
     · rw [encE_vers h2 h3] at h1
       cases h1
     · rw [encE_ok h2 h3]
       exact encode_ok x tv rv f v mx W h hE1 hE2 h2 h3 hmax
   · rw [encE_bad v rfl h2] at h1
     exact absurd h1 h2
 · exact encode_err x tv rv f v W h hE.env h1
end Go.Proofs.YtkpmmabdpeobaaaGreatDoor.Px
