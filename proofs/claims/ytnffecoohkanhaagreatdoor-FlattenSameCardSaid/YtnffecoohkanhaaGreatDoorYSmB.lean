/- The law FlattenSame, walked. -/
import Derived.Test.YtnffecoohkanhaaGreatDoorYSmA
import Derived.Test.YtnffecoohkanhaaGreatDoorYSmC
import Derived.Test.YtnffecoohkanhaaGreatDoorYFtS
import Derived.Test.YtnffecoohkanhaaGreatDoorYNmE
import Derived.Test.YtnffecoohkanhaaGreatDoorM12
namespace Go.Proofs.YtnffecoohkanhaaGreatDoor.Px
open Go.RowKit
open Go.Maps (Keyed)
open Lk Ld St

set_option maxHeartbeats 8000000 in
set_option maxRecDepth 100000 in
theorem same35_any (z l t : Nat) (To : List Nat) (tv : Value) (W : World) (hz : z < 256) (hl : l < 256) (ht : t < 256) (hT : SlV W tv 1 To.length (To.map u8v)) (hTo : ∀ b ∈ To, b < 256) (hE : EnvAt W) :
    Calls Tryz.prog 3 #[.agg #[.int .u8 (z : Int), .int .u8 (l : Int), tv, .int .u8 (t : Int)]] W fun e w' => e = .returned (.bool true) ∧ Below W.heap.size W w' := by
  have CM := Lib.hid (fun (Y : World) (hB : Below W.heap.size W Y) => made_any z l t To tv Y hz hl ht (hT.keep hB) hTo (hE.keep hB))
  obtain ⟨n, hn⟩ : ∃ n, 1 + z % 6 = n := ⟨_, rfl⟩
  obtain ⟨m, hm⟩ : ∃ m, l % 13 = m := ⟨_, rfl⟩
  obtain ⟨k, hk⟩ : ∃ k, t % m = k := ⟨_, rfl⟩
  rw [hn, hm, hk] at CM
  obtain ⟨Ls, hLs⟩ : ∃ L, rot k (lkN n m To) = L := ⟨_, rfl⟩
  obtain ⟨Zn, hZn⟩ : ∃ L, zN n t = L := ⟨_, rfl⟩
  rw [hLs, hZn] at CM
  have hn1 : 1 ≤ n := by omega
  have hn6 : n ≤ 6 := by omega
  have hm12 : m ≤ 12 := by omega
  have HLs := Lib.hid hLs
  have HZn := Lib.hid hZn
  have HZl := Lib.hid (show Zn.length = n by rw [← hZn]; exact zN_len)
  have HLl := Lib.hid (show Ls.length = m by rw [← hLs]; exact made_len)
  have HZb := Lib.hid (show ∀ x ∈ Zn, x.length ≤ 100 by rw [← hZn]; exact z_small hn6)
  have HLb := Lib.hid (show ∀ p ∈ Ls, p.1.length ≤ 100 ∧ p.2.length ≤ 100 by rw [← hLs]; exact l_small hn1 hn6 hm12)
  obtain ⟨ta, tc, rfl, htc1, htc2⟩ := hT.slA
  obtain ⟨q, hq⟩ : ∃ q, To.length = q := ⟨_, rfl⟩
  rw [hq] at CM ⊢
  have K0 := Lib.hid ((Kp.start W).allocAt W.heap.size rfl (.cells #[.int .u8 (z : Int), .int .u8 (l : Int), .slice ta q tc, .int .u8 (t : Int)] 24))
  obtain ⟨W1, hW1⟩ : ∃ X, W.alloc (.cells #[.int .u8 (z : Int), .int .u8 (l : Int), .slice ta q tc, .int .u8 (t : Int)] 24) = X := ⟨_, rfl⟩
  rw [hW1] at K0
  obtain ⟨v0, v1, v2, v3⟩ := row4 (K0.out.at 0 rfl)
  clear hn hm hk hT hTo hE hq hLs hZn
  have HFi := Lib.hid (show Fine Zn Ls by rw [← HZn.out, ← HLs.out]; exact fine_of (made_fine hn1 hn6 hm12))
  go_enter Tryz.func3, Tryz.ntmps3
  go_upto_region 1 with fail
  clear hW1
  go_upto_region 2 with (first | (go_at_call 4; refine (CM.out _ K0.out.below).mono ?_; rintro e X ⟨zv, lv, rfl, hk⟩; obtain ⟨az, cz, rfl⟩ : ∃ a c, zv = .slice a n c := own_slice (hk.row 1 rfl); obtain ⟨al, cl, rfl⟩ : ∃ a c, lv = .slice a m c := own_slice (hk.row 0 rfl); have K1 := Lib.hid ((K0.out.adopt hk).allocAt X.heap.size rfl (.cells #[.slice none 0 0, .slice az n cz, .slice al m cl, .slice none 0 0] 30)); obtain ⟨x0, x1, x2, x3⟩ := row4 (K1.out.at 0 rfl); clear hk))
  obtain ⟨S, hS⟩ : ∃ S, X.heap.size = S := ⟨_, rfl⟩
  obtain ⟨Y2, hY2⟩ : ∃ Y, X.alloc (.cells #[.slice none 0 0, .slice az n cz, .slice al m cl, .slice none 0 0] 30) = Y := ⟨_, rfl⟩
  rw [hY2] at K1 x0 x1 x2 x3 ⊢
  rw [hS] at K1 x0 x1 x2 x3 ⊢
  clear hY2 hS v0 v1 v2 v3 CM
  have HSrc := Lib.hid (src_own (K1.out.row 1 rfl) (K1.out.row 0 rfl) HZl.out HLl.out HZb.out HLb.out)
  have HLn := Lib.hid (own_hln4 (K1.out.row 0 rfl))
  have CF := Lib.hid (links35_s _ _ Zn Ls _ HSrc.out (by rw [HLl.out]; exact HLn.out) (by rw [HLl.out]; omega) (by rw [HZl.out]; omega) HFi.out.check)
  have CS := Lib.hid (fun (Y : World) (hB : Below Y2.heap.size Y2 Y) => sort35_s _ _ Zn Ls Y (HSrc.out.keep hB) (by rw [HLl.out]; exact HLn.out) (by rw [HLl.out]; omega) (by rw [HZl.out]; omega))
  go_upto_region 3 with (first | (go_at_call 5; refine CF.out.mono ?_; rintro e X3 ⟨rv2, zv2, lv2, sv2, Q2, rfl, ⟨fa, fb, fc, fd, fe, ff, fg, fh, ev⟩, hq2, hs2, hb⟩; rw [HZl.out, HLl.out] at ev; simp only [Value.agg.injEq, Array.mk.injEq, List.cons.injEq, and_true] at ev; obtain ⟨rfl, rfl, rfl, rfl⟩ := ev; have B3 := Lib.hid (hb.alloc (by have := hb.size; omega) (.cells #[.slice fa 0 fb, .slice fc n fd, .slice fe m ff, .slice fg 0 fh] 30)); have K3 := Lib.hid ((K1.out.keep hb).allocAt X3.heap.size rfl (.cells #[.slice fa 0 fb, .slice fc n fd, .slice fe m ff, .slice fg 0 fh] 30)); have HS2 := Lib.hid (hs2.keep ((Below.refl _ X3).alloc (Nat.le_refl _) (.cells #[.slice fa 0 fb, .slice fc n fd, .slice fe m ff, .slice fg 0 fh] 30))); have HQ2 := Lib.hid hq2; obtain ⟨x0, x1, x2, x3⟩ := row4 (K3.out.at 1 rfl); clear hb hs2 hq2 CF))
  obtain ⟨p4, hp4⟩ : ∃ p, X3.heap.size = p := ⟨_, rfl⟩
  obtain ⟨Y3, hY3⟩ : ∃ Y, X3.alloc (.cells #[.slice fa 0 fb, .slice fc n fd, .slice fe m ff, .slice fg 0 fh] 30) = Y := ⟨_, rfl⟩
  rw [hY3] at K3 B3 HS2 x0 x1 x2 x3 ⊢
  rw [hp4] at K3 ⊢
  clear hY3 hp4 K1
  go_upto_region 4 with (first | (go_at_call 6; refine (CS.out _ B3.out).mono ?_; rintro e X4 ⟨rv3, zv3, lv3, sv3, CZ, CL, rfl, ⟨ga, gb, gc, gd, ge, gf, gg, gh, ev⟩, hq3, hl3, hs3, hb⟩; rw [HZl.out, HLl.out] at ev; simp only [Value.agg.injEq, Array.mk.injEq, List.cons.injEq, and_true] at ev; obtain ⟨rfl, rfl, rfl, rfl⟩ := ev; have B4 := Lib.hid ((B3.out.trans (hb.mono B3.out.size)).alloc (by have := B3.out.size; have := hb.size; omega) (.cells #[.slice ga 0 gb, .slice gc n gd, .slice ge m gf, .slice gg 0 gh] 30)); have D4 := Lib.hid (hb.alloc (by have := hb.size; omega) (.cells #[.slice ga 0 gb, .slice gc n gd, .slice ge m gf, .slice gg 0 gh] 30)); have K4 := Lib.hid ((K3.out.keep hb).allocAt X4.heap.size rfl (.cells #[.slice ga 0 gb, .slice gc n gd, .slice ge m gf, .slice gg 0 gh] 30)); have HS3 := Lib.hid (hs3.keep ((Below.refl _ X4).alloc (Nat.le_refl _) (.cells #[.slice ga 0 gb, .slice gc n gd, .slice ge m gf, .slice gg 0 gh] 30))); have HQ3 := Lib.hid hq3; have HL3 := Lib.hid hl3; obtain ⟨x0, x1, x2, x3⟩ := row4 (K4.out.at 2 rfl); clear hb hs3 hq3 hl3 CS))
  obtain ⟨p6, hp6⟩ : ∃ p, X4.heap.size = p := ⟨_, rfl⟩
  obtain ⟨Y4, hY4⟩ : ∃ Y, X4.alloc (.cells #[.slice ga 0 gb, .slice gc n gd, .slice ge m gf, .slice gg 0 gh] 30) = Y := ⟨_, rfl⟩
  rw [hY4] at K4 B4 D4 HS3 x0 x1 x2 x3 ⊢
  rw [hp6] at K4 ⊢
  clear hY4 hp6 K3
  -- the three sources at this world
  have HA := Lib.hid (HSrc.out.keep B4.out)
  have HB' := Lib.hid (HS2.out.keep D4.out)
  have HC := HS3
  clear HSrc HS2 B3 B4 D4
  obtain ⟨N, hN⟩ : ∃ N, namesL Zn Ls = N := ⟨_, rfl⟩
  have HPz := Lib.hid HQ3.out
  have HPl := Lib.hid (show CL.Perm Ls from stb_to_perm HL3.out)
  have hN1 : namesL (znames (zos Zn)) Ls = N := by rw [zos_names]; exact hN
  have hN2 : namesL (znames Q2) (flatL Zn Ls) = N := by rw [HQ2.out, ← hN]; exact names_perm (List.Perm.refl _) (by rw [flat_nm])
  have hN3 : namesL (znames CZ) CL = N := by rw [← hN]; exact names_perm HPz.out (HPl.out.map Prod.fst)
  have HNm := Lib.hid (fun x => show x ∈ N ↔ x ∈ Zn ∨ x ∈ Lk.nm Ls by rw [← hN]; exact names_mem Zn Ls x)
  have hq2l : Q2.length = n := by have := congrArg List.length HQ2.out; rw [znames_len, HZl.out] at this; exact this
  have hczl : CZ.length = n := by have := HPz.out.length_eq; rw [znames_len, HZl.out] at this; exact this
  have hcll : CL.length = m := by rw [HPl.out.length_eq, HLl.out]
  have hzol : (zos Zn).length = n := by unfold zos; rw [List.length_map, HZl.out]
  have hfll : (flatL Zn Ls).length = m := by rw [flatL_len, HLl.out]
  have CN1 := Lib.hid (names_any (.slice none 0 0) _ _ (.slice none 0 0) (zos Zn) Ls Y4 HA.out (by omega) (by rw [HLl.out]; omega))
  have CN2 := Lib.hid (fun (Y : World) (hB : Below Y4.heap.size Y4 Y) => names_any (.slice fa 0 fb) _ _ (.slice fg 0 fh) Q2 (flatL Zn Ls) Y (HB'.out.keep hB) (by omega) (by omega))
  have CN3 := Lib.hid (fun (Y : World) (hB : Below Y4.heap.size Y4 Y) => names_any (.slice ga 0 gb) _ _ (.slice gg 0 gh) CZ CL Y (HC.out.keep hB) (by omega) (by omega))
  rw [hN1] at CN1
  rw [hN2] at CN2
  rw [hN3] at CN3
  have hNp : 0 < N.length := by
    have h0 : Zn.getD 0 [] ∈ N := (HNm.out _).2 (.inl (getD_mem (by rw [HZl.out]; omega)))
    exact List.length_pos_of_mem h0
  obtain ⟨nN, hnN⟩ : ∃ k, N.length = k := ⟨_, rfl⟩
  rw [hnN] at CN1 CN2 CN3 hNp
  have HnN := Lib.hid hnN
  have HNb := Lib.hid (show ∀ x ∈ N, x.length ≤ maxLen from fun x hx => by
    rcases (HNm.out x).1 hx with q | q
    · have := HZb.out x q; unfold maxLen; omega
    · obtain ⟨p, hp, rfl⟩ := nm_mem q
      have := (HLb.out p hp).1; unfold maxLen; omega)
  have HLens := Lib.hid (And.intro hq2l (And.intro hczl (And.intro hcll (And.intro hzol hfll))))
  clear hN hN1 hN2 hN3 hnN hq2l hczl hcll hzol hfll
  go_upto_region 5 with (first | (go_at_call 7; refine CN1.out.mono ?_; rintro e X5 ⟨v5, rfl, hv5, hb⟩; obtain ⟨na, nc, rfl, hnc1, hnc2⟩ := hv5.slA; unfold maxLen at hnc2; have K5 := Lib.hid (K4.out.keep hb); have B5 := Lib.hid hb; have HV5 := Lib.hid hv5; clear hb hv5 CN1))
  clear x0 x1 x2 x3
  obtain ⟨x0, x1, x2, x3⟩ := row4 (K5.out.at 1 rfl)
  have M1 := Lib.hid trivial
  have hNi : ¬ (nN : Int) = 0 := by omega
  have hNq : ((nN : Int) == 0) = false := by rw [beq_eq_false_iff_ne]; exact hNi
  go_upto_region 7 with (first
    | (go_at_call 7; have gg := M1.out; clear gg; refine (CN2.out _ B5.out).mono ?_; rintro e X6 ⟨v6, rfl, hv6, hb⟩; obtain ⟨oa, oc, rfl, _, _⟩ := hv6.slA; have K6 := Lib.hid (K5.out.keep hb); have B6 := Lib.hid (B5.out.trans (hb.mono B5.out.size)); have HV5a := Lib.hid (HV5.out.keep hb); have HV6 := Lib.hid hv6; clear hb hv6 M1)
    | (go_at_call 8; have gg := HV6.out; clear gg; refine (equal_strs N N _ _ _ (show SlV _ _ 1 N.length _ by rw [HnN.out]; exact HV6.out) (show SlV _ _ 1 N.length _ by rw [HnN.out]; exact HV5a.out)).mono ?_; rintro e X7 ⟨rfl, hb⟩; rw [decide_eq_true rfl]; have K7 := Lib.hid (K6.out.keep hb); have B7 := Lib.hid (B6.out.trans (hb.mono B6.out.size)); have HV5b := Lib.hid (HV5a.out.keep hb); obtain ⟨y0, y1, y2, y3⟩ := row4 (K7.out.at 0 rfl); clear hb HV6)
    | (go_at_call 7; have gg := K7.out; clear gg; refine (CN3.out _ B7.out).mono ?_; rintro e X8 ⟨v8, rfl, hv8, hb⟩; obtain ⟨oa, oc, rfl, _, _⟩ := hv8.slA; have K8 := Lib.hid (K7.out.keep hb); have B8 := Lib.hid (B7.out.trans (hb.mono B7.out.size)); have HV5c := Lib.hid (HV5b.out.keep hb); have HV8 := Lib.hid hv8; clear hb hv8)
    | (go_at_call 8; have gg := HV8.out; clear gg; refine (equal_strs N N _ _ _ (show SlV _ _ 1 N.length _ by rw [HnN.out]; exact HV8.out) (show SlV _ _ 1 N.length _ by rw [HnN.out]; exact HV5c.out)).mono ?_; rintro e X9 ⟨rfl, hb⟩; rw [decide_eq_true rfl]; have K9 := Lib.hid (K8.out.keep hb); have B9 := Lib.hid (B8.out.trans (hb.mono B8.out.size)); have HV := Lib.hid (HV5c.out.keep hb); obtain ⟨z0, z1, z2, z3⟩ := row4 (K9.out.at 1 rfl); obtain ⟨z4, z5, z6, z7⟩ := row4 (K9.out.at 2 rfl); clear hb HV8))
  clear x0 x1 x2 x3 y0 y1 y2 y3 z0 z1 z2 z3 z4 z5 z6 z7 K4 CN2 CN3
  have HA9 := Lib.hid (HA.out.keep B9.out)
  have HB9 := Lib.hid (HB'.out.keep B9.out)
  have HC9 := Lib.hid (HC.out.keep B9.out)
  clear HA HB' HC HS3
  go_wp2_with fail
  go_loopw [9, 10, 11, 12, 13, 14, 15, 61] (fun _ _ _ _ _ _ _ v61 wr => ∃ i : Nat, i ≤ nN ∧ v61 = .int .i64 (i : Int) ∧ Below X9.heap.size X9 wr) (fun _ _ _ _ _ _ _ v61 _ => nN - (intOf v61).toNat)
  case atStart => exact ⟨0, by omega, rfl, Below.refl _ _⟩
  case round =>
    obtain ⟨i, hi', rfl, hbe⟩ := hrel
    have HB := Lib.hid hbe
    have K := Lib.hid (K9.out.keep hbe)
    clear hbe
    by_cases hlt : i < nN
    · obtain ⟨x, hx⟩ : ∃ x, N[i]? = some x := ⟨_, List.getElem?_eq_getElem (by rw [HnN.out]; exact hlt)⟩
      have hxN := List.mem_of_getElem? hx
      have hxm := (HNm.out x).1 hxN
      obtain ⟨hz1, hz2⟩ := HFi.out.find hxm
      have hf2 := HFi.out.flat_find hxm
      have hf3 := HFi.out.perm_find HPz.out HPl.out hxm
      obtain ⟨zn, hzn⟩ : ∃ y, endN Zn Ls x = y := ⟨_, rfl⟩
      rw [hzn] at hz1 hz2 hf3
      rw [hz2] at hf2
      have hxl := HNb.out x hxN
      obtain ⟨bn, on, cn, en, _, _, hbn, hcn⟩ := HV.out.allA (by omega)
      simp only [Value.slice.injEq] at en
      obtain ⟨rfl, _, rfl⟩ := en
      have kn := (HB.out.cell (p := ⟨bn, on + i, none⟩) hbn).trans (hcn i (.string (bs x)) (by rw [List.getElem?_map, hx]; rfl))
      have hbnw := Nat.lt_of_lt_of_le hbn HB.out.size
      have CA := Lib.hid (fun (Y : World) (hB : Below X9.heap.size X9 Y) => find_any (.slice none 0 0) _ _ (.slice none 0 0) (zos Zn) Ls x Y (HA9.out.keep hB) hxl (by rw [HLens.out.2.2.2.1]; omega) (by rw [HLl.out]; omega))
      have CB := Lib.hid (fun (Y : World) (hB : Below X9.heap.size X9 Y) => find_any (.slice fa 0 fb) _ _ (.slice fg 0 fh) Q2 (flatL Zn Ls) x Y (HB9.out.keep hB) hxl (by rw [HLens.out.1]; omega) (by rw [HLens.out.2.2.2.2]; omega))
      have CC := Lib.hid (fun (Y : World) (hB : Below X9.heap.size X9 Y) => find_any (.slice ga 0 gb) _ _ (.slice gg 0 gh) CZ CL x Y (HC9.out.keep hB) hxl (by rw [HLens.out.2.1]; omega) (by rw [HLens.out.2.2.1]; omega))
      rw [zos_names, hz2] at CA
      rw [HQ2.out, hf2] at CB
      rw [hf3] at CC
      dsimp only at CA CB CC
      obtain ⟨b1, o1, rfl, hb1, hi1, hc1⟩ := zone_cell HA9.out.zo HLens.out.2.2.2.1 (show zn ∈ znames (zos Zn) by rw [zos_names]; exact hz1)
      obtain ⟨b2, o2, rfl, hb2, hi2, hc2⟩ := zone_cell HB9.out.zo HLens.out.1 (show zn ∈ znames Q2 by rw [HQ2.out]; exact hz1)
      obtain ⟨b3, o3, rfl, hb3, hi3, hc3⟩ := zone_cell HC9.out.zo HLens.out.2.1 (show zn ∈ znames CZ from HPz.out.mem_iff.2 hz1)
      rw [zos_names] at hi1 hc1
      rw [HQ2.out] at hi2 hc2
      obtain ⟨i0, hi0⟩ : ∃ k, Zn.idxOf zn = k := ⟨_, rfl⟩
      obtain ⟨j0, hj0⟩ : ∃ k, (znames CZ).idxOf zn = k := ⟨_, rfl⟩
      rw [hi0] at CA CB hi1 hc1 hi2 hc2
      rw [hj0] at CC hi3 hc3
      obtain ⟨sx, hsx⟩ : ∃ s, bs x = s := ⟨_, rfl⟩
      obtain ⟨sz, hsz⟩ : ∃ s, bs zn = s := ⟨_, rfl⟩
      rw [hsx] at kn CA CB CC
      rw [hsz] at hc1 hc2 hc3
      have HC1 := Lib.hid hc1
      have HC2 := Lib.hid hc2
      have HC3 := Lib.hid hc3
      have T1 := Lib.hid trivial
      clear hx hxN hxm hz1 hz2 hf2 hf3 hzn hxl hcn hc1 hc2 hc3 hi0 hj0 hsx hsz
      obtain ⟨x0, x1, x2, x3⟩ := row4 (K.out.at 2 rfl)
      go_upto_region 13 with (first
        | (go_at_call 9; have gg := T1.out; clear gg; refine (CA.out _ HB.out).mono ?_; rintro e Z1 ⟨rfl, hb⟩; have BA := Lib.hid (HB.out.trans (hb.mono HB.out.size)); have KA := Lib.hid (K.out.keep hb); obtain ⟨y0, y1, y2, y3⟩ := row4 (KA.out.at 1 rfl); clear hb T1)
        | (go_at_call 9; have gg := KA.out; clear gg; refine (CB.out _ BA.out).mono ?_; rintro e Z2 ⟨rfl, hb⟩; have BB := Lib.hid (BA.out.trans (hb.mono BA.out.size)); have KB := Lib.hid (KA.out.keep hb); obtain ⟨z0, z1, z2, z3⟩ := row4 (KB.out.at 0 rfl); clear hb KA)
        | (go_at_call 9; have gg := KB.out; clear gg; refine (CC.out _ BB.out).mono ?_; rintro e Z3 ⟨rfl, hb⟩; have BC := Lib.hid (BB.out.trans (hb.mono BB.out.size)); have KC := Lib.hid (KB.out.keep hb); clear hb KB))
      clear x0 x1 x2 x3 y0 y1 y2 y3 z0 z1 z2 z3 kn
      obtain ⟨x0, x1, x2, x3⟩ := row4 (KC.out.at 2 rfl)
      obtain ⟨y0, y1, y2, y3⟩ := row4 (KC.out.at 1 rfl)
      obtain ⟨z0, z1, z2, z3⟩ := row4 (KC.out.at 0 rfl)
      have c1 := (BC.out.cell (p := ⟨b1, o1 + i0 * 2, none⟩) hb1).trans HC1.out
      have c2 := (BC.out.cell (p := ⟨b2, o2 + i0 * 2, none⟩) hb2).trans HC2.out
      have c3 := (BC.out.cell (p := ⟨b3, o3 + j0 * 2, none⟩) hb3).trans HC3.out
      have hg1 : ¬ (n : Int) ≤ (i0 : Int) := by omega
      have hg2 : ¬ (n : Int) ≤ (j0 : Int) := by omega
      have hp1 : (i0 : Int) < (n : Int) := by omega
      have hp2 : (j0 : Int) < (n : Int) := by omega
      have hp3 : (0 : Int) ≤ (i0 : Int) := by omega
      have hp4 : (0 : Int) ≤ (j0 : Int) := by omega
      go_quiet (fail)
      go_wp2_with fail
      go_roundw
      case rel => first | exact ⟨i + 1, by omega, by go_num, below_drewN BC.out _⟩ | ((repeat apply Exists.intro); exact ⟨⟨i + 1, by omega, by go_num, below_drewN BC.out _⟩, rfl⟩)
      case measure => simp [intOf]; omega
    · obtain rfl : nN = i := by omega
      obtain ⟨y0, y1, y2, y3⟩ := row4 (K.out.at 1 rfl)
      have HW := Lib.hid HB.out
      have KW := Lib.hid K.out
      go_wp2_with fail
      clear y0 y1 y2 y3 K HB
      have hent : ∀ args w, (callFunc 11 args).run Tryz.prog w = .ok (.enter 11 args) w := enters_of Tryz.func11 (by kernel_rfl) rfl
      have HEnt := Lib.hid hent
      clear hent
      go_loopw [16, 17, 148] (fun _ _ v148 wr2 => ∃ i : Nat, i ≤ m ∧ v148 = .int .i64 (i : Int) ∧ Below X9.heap.size X9 wr2) (fun _ _ v148 _ => m - (intOf v148).toNat)
      case atStart => exact ⟨0, by omega, rfl, HW.out⟩
      case round =>
        obtain ⟨i, hi', rfl, hbe⟩ := hrel
        have HB := Lib.hid hbe
        have K := Lib.hid (K9.out.keep hbe)
        clear hbe HW KW
        by_cases hlt : i < m
        · obtain ⟨p, hp⟩ : ∃ p, Ls[i]? = some p := ⟨_, List.getElem?_eq_getElem (by rw [HLl.out]; exact hlt)⟩
          have hpm : p.1 ∈ Lk.nm Ls := List.mem_map.2 ⟨p, List.mem_of_getElem? hp, rfl⟩
          obtain ⟨hz1, _⟩ := HFi.out.find (.inr hpm)
          have hfp : (flatL Zn Ls)[i]? = some (p.1, endN Zn Ls p.1) := by rw [flat_eq, List.getElem?_map, hp]; rfl
          obtain ⟨bl, ol, cl1, el, _, _, hbl, hcl⟩ := SlV.allA (show SlV X9 (.slice al m cl) 2 m (Ls.flatMap kcells) by have := HA9.out.lk; unfold LkV at this; rw [HLl.out] at this; exact this) (by omega)
          simp only [Value.slice.injEq] at el
          obtain ⟨rfl, _, rfl⟩ := el
          obtain ⟨bf, of', cf, ef, _, _, hbf, hcf⟩ := SlV.allA (show SlV X9 (.slice fe m ff) 2 m ((flatL Zn Ls).flatMap kcells) by have := HB9.out.lk; unfold LkV at this; rw [HLens.out.2.2.2.2] at this; exact this) (by omega)
          simp only [Value.slice.injEq] at ef
          obtain ⟨rfl, _, rfl⟩ := ef
          have l1 := Lib.hid (show X9.cell? ⟨bl, ol + i * 2 + 1, none⟩ = some (.string (bs p.1)) from hcl _ _ (lk_at Ls hp).2)
          have f0 := (HB.out.cell (p := ⟨bf, of' + i * 2, none⟩) hbf).trans (hcf _ _ (lk_at _ hfp).1)
          have f1 := (HB.out.cell (p := ⟨bf, of' + i * 2 + 1, none⟩) hbf).trans (hcf _ _ (lk_at _ hfp).2)
          have hbfw := Nat.lt_of_lt_of_le hbf HB.out.size
          obtain ⟨zn, hzn⟩ : ∃ y, endN Zn Ls p.1 = y := ⟨_, rfl⟩
          rw [hzn] at f0 hz1
          obtain ⟨sn, hsn⟩ : ∃ s, bs p.1 = s := ⟨_, rfl⟩
          obtain ⟨sz, hsz⟩ : ∃ s, bs zn = s := ⟨_, rfl⟩
          dsimp only at f1
          rw [hsn] at l1 f1
          rw [hsz] at f0
          have KA := Lib.hid (K.out.allocAt wr.heap.size rfl (.cells #[.string sz, .string sn] 44))
          have BA := Lib.hid (HB.out.alloc HB.out.size (.cells #[.string sz, .string sn] 44))
          have CC := Lib.hid (fun (Y : World) (hB : Below X9.heap.size X9 Y) (hc : Y.cell? ⟨wr.heap.size, 0, none⟩ = some (.string sz)) => contains_zone (zos Zn) zn sz hsz _ wr.heap.size Y (HA9.out.keep hB).zo hc (by rw [HLens.out.2.2.2.1]; omega) (by rw [zos_names]; exact hz1) HEnt.out)
          clear hp hpm hfp hcl hcf hzn hsn hsz hz1
          go_upto_region 19 with fail
          obtain ⟨Yp, hYp⟩ : ∃ X, wr.alloc (.cells #[.string sz, .string sn] 44) = X := ⟨_, rfl⟩
          obtain ⟨pb, hpb⟩ : ∃ b, wr.heap.size = b := ⟨_, rfl⟩
          rw [hYp] at KA BA ⊢
          rw [hpb] at KA CC ⊢
          clear hYp hpb f0 f1 hbfw K
          have HS := Lib.hid (fun (Y : World) (hB : Below Yp.heap.size Yp Y) => (show Y.cell? ⟨pb, 0, none⟩ = some (.string sz) ∧ Y.cell? ⟨pb, 1, none⟩ = some (.string sn) ∧ Y.cell? ⟨S, 1, none⟩ = some (.slice az n cz) ∧ Y.cell? ⟨S, 2, none⟩ = some (.slice (some ⟨bl, ol, none⟩) m cl) ∧ Y.cell? ⟨bl, ol + i * 2 + 1, none⟩ = some (.string sn) ∧ bl < Y.heap.size ∧ Below Yp.heap.size Yp Y from
            ⟨cells_at ((KA.out.keep hB).at 0 rfl) 0, cells_at ((KA.out.keep hB).at 0 rfl) 1, cells_at ((KA.out.keep hB).at 3 rfl) 1, cells_at ((KA.out.keep hB).at 3 rfl) 2, ((BA.out.trans (hB.mono BA.out.size)).cell (p := ⟨bl, ol + i * 2 + 1, none⟩) hbl).trans l1.out, Nat.lt_of_lt_of_le hbl (BA.out.trans (hB.mono BA.out.size)).size, hB⟩))
          have HX0 : Hid (Below Yp.heap.size Yp Yp.drew) := Lib.hid (below_drewN (Below.refl _ Yp) 1)
          have HBX := Lib.hid (fun (Y : World) (hB : Below Yp.heap.size Yp Y) => (show Below X9.heap.size X9 Y from BA.out.trans (hB.mono BA.out.size)))
          obtain ⟨t0, t1, t2, t3, t4, t5, _⟩ := HS.out Yp (Below.refl _ _)
          have CC2 := Lib.hid (fun (Y : World) (hB : Below Yp.heap.size Yp Y) => CC.out Y (HBX.out Y hB) (HS.out Y hB).1)
          have hiI : (i : Int) < (m : Int) := by omega
          go_region_held3 (fun w' => w'.cell? ⟨pb, 0, none⟩ = some (.string sz) ∧ w'.cell? ⟨pb, 1, none⟩ = some (.string sn) ∧ w'.cell? ⟨S, 1, none⟩ = some (.slice az n cz) ∧ w'.cell? ⟨S, 2, none⟩ = some (.slice (some ⟨bl, ol, none⟩) m cl) ∧ w'.cell? ⟨bl, ol + i * 2 + 1, none⟩ = some (.string sn) ∧ bl < w'.heap.size ∧ Below Yp.heap.size Yp w')
            (first | with_reducible exact HS.out _ HX1.out | with_reducible exact HS.out _ HX0.out)
            (first | (go_at_call 10; refine (CC2.out _ HX0.out).mono ?_; rintro e X6 ⟨rfl, hb2⟩; have HX1 : Hid (Below Yp.heap.size Yp X6) := Lib.hid (HX0.out.trans (hb2.mono HX0.out.size)); clear hb2))
          all_goals
            go_wp2_with fail
            go_roundw
            case rel => first | exact ⟨i + 1, by omega, by go_num, HBX.out _ HX1.out⟩ | ((repeat apply Exists.intro); exact ⟨⟨i + 1, by omega, by go_num, HBX.out _ HX1.out⟩, rfl⟩)
            case measure => simp [intOf]; omega
        · obtain rfl : m = i := by omega
          go_wp2_with (first | (go_at_call 12; refine (works35_any _).mono ?_; rintro e X2 ⟨rfl, hb⟩; have KF := Lib.hid (K.out.keep hb); clear hb))
          exact bodyPost_ret (v := .bool true) (by simp [results, Tryz.results3, go_sem]) rfl ⟨rfl, KF.out.below⟩
end Go.Proofs.YtnffecoohkanhaaGreatDoor.Px
