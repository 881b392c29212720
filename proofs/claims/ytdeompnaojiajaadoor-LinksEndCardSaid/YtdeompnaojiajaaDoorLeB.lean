/- The law LinksEnd of chapter 15, walked: each name ends at a zone. -/
import Derived.Test.YtdeompnaojiajaaDoorLeA
import Derived.Test.YtdeompnaojiajaaDoorLeP
namespace Go.Proofs.YtdeompnaojiajaaDoor.Px
open Go.RowKit
open Go.Maps (Keyed)
open Lk Ld

set_option maxHeartbeats 8000000 in
set_option maxRecDepth 100000 in
theorem end_any (z l t : Nat) (To : List Nat) (tv : Value) (W : World) (hz : z < 256) (hl : l < 256) (ht : t < 256) (hT : SlV W tv 1 To.length (To.map u8v)) (hTo : ∀ b ∈ To, b < 256) (hE : EnvAt W) :
    Calls Tryd.prog 7 #[.agg #[.int .u8 (z : Int), .int .u8 (l : Int), tv, .int .u8 (t : Int)]] W fun e w' => e = .returned (.bool true) ∧ Below W.heap.size W w' := by
  have CM := Lib.hid (fun (Y : World) (hB : Below W.heap.size W Y) => made_any z l t To tv Y hz hl ht (hT.keep hB) hTo (hE.keep hB))
  obtain ⟨n, hn⟩ : ∃ n, 1 + z % 6 = n := ⟨_, rfl⟩
  obtain ⟨m, hm⟩ : ∃ m, l % 13 = m := ⟨_, rfl⟩
  obtain ⟨k, hk⟩ : ∃ k, t % m = k := ⟨_, rfl⟩
  rw [hn, hm, hk] at CM
  obtain ⟨Ls, hLs⟩ : ∃ L, rot k (lkN n m To) = L := ⟨_, rfl⟩
  obtain ⟨Zn, hZn⟩ : ∃ L, zN n t = L := ⟨_, rfl⟩
  rw [hLs, hZn] at CM
  have hn1 : 1 ≤ n := by omega
  have hn6 : n ≤ 6 := by omega
  have hm12 : m ≤ 12 := by omega
  have HLs := Lib.hid hLs
  have HZn := Lib.hid hZn
  have HZl := Lib.hid (show Zn.length = n by rw [← hZn]; exact zN_len)
  have HLl := Lib.hid (show Ls.length = m by rw [← hLs]; exact made_len)
  have HZb := Lib.hid (show ∀ x ∈ Zn, x.length ≤ 100 by rw [← hZn]; exact z_small hn6)
  have HLb := Lib.hid (show ∀ p ∈ Ls, p.1.length ≤ 100 ∧ p.2.length ≤ 100 by rw [← hLs]; exact l_small hn1 hn6 hm12)
  obtain ⟨ta, tc, rfl, htc1, htc2⟩ := hT.slA
  obtain ⟨q, hq⟩ : ∃ q, To.length = q := ⟨_, rfl⟩
  rw [hq] at CM ⊢
  have K0 := Lib.hid ((Kp.start W).allocAt W.heap.size rfl (.cells #[.int .u8 (z : Int), .int .u8 (l : Int), .slice ta q tc, .int .u8 (t : Int)] 50))
  obtain ⟨W1, hW1⟩ : ∃ X, W.alloc (.cells #[.int .u8 (z : Int), .int .u8 (l : Int), .slice ta q tc, .int .u8 (t : Int)] 50) = X := ⟨_, rfl⟩
  rw [hW1] at K0
  obtain ⟨v0, v1, v2, v3⟩ := row4 (K0.out.at 0 rfl)
  obtain ⟨A, hA⟩ : ∃ A, namesL Zn Ls = A := ⟨_, rfl⟩
  have HAi := Lib.hid (show A.Pairwise (fun a b => a < b) by rw [← hA]; exact names_incr _ _)
  obtain ⟨N, hN⟩ : ∃ N, A.length = N := ⟨_, rfl⟩
  have hNn : N = n + m := by rw [← hN, ← hA, ← hZn, ← hLs]; exact names_len hn6 hm12
  have HAm := Lib.hid (show ∀ x, x ∈ A ↔ x ∈ Zn ∨ x ∈ nm Ls by rw [← hA]; exact fun x => names_mem _ _ x)
  have HA := Lib.hid hA
  have HN := Lib.hid hN
  have hnz : Zn.length = n := HZl.out
  have hlz : Ls.length = m := HLl.out
  have HZf := Lib.hid (show ∀ i, i < n → findL Zn Ls (Zn.getD i []) = (i, 0) by rw [← hZn]; exact fun i hi => zone_self hn6 hi Ls)
  have HLf := Lib.hid (show ∀ p ∈ Ls, ∃ j, j < n ∧ findL Zn Ls p.1 = (j, 0) ∧ findL Zn Ls p.2 = (j, 0) by rw [← hZn, ← hLs]; exact fun p hp => link_ends hn1 hm12 hp)
  have HNo := Lib.hid (show ∀ x : List UInt8, x.length < 2 → findL Zn Ls x = (0, 9) by rw [← hZn, ← hLs]; exact fun x hx => no_name hn6 hm12 hx)
  have HFi := Lib.hid (show checkL Zn Ls zoneOk = ((0, 0), 0) by rw [← hZn, ← hLs]; exact made_fine hn1 hn6 hm12)
  have hzo : (zos Zn).length = n := by unfold zos; rw [List.length_map, hnz]
  have HZo := Lib.hid hzo
  have hwnm : IntKind.i64.wrap ((n : Int) + (m : Int)) = (N : Int) := by rw [show (n : Int) + (m : Int) = (N : Int) by omega]; exact IntWalk.i64_in _ (by omega)
  have hN0 : 0 < N := by omega
  have hNb : N ≤ 18 := by omega
  have HNn := Lib.hid hNn
  have CW := Lib.hid works_any
  clear hn hm hk hT hTo hE hq hLs hZn hA hN hnz hlz hzo hNn
  go_enter Tryd.func7, Tryd.ntmps7
  go_upto_region 1 with fail
  clear hW1
  go_upto_region 2 with (first | (go_at_call 20; refine (CM.out _ K0.out.below).mono ?_; rintro e X ⟨zv, lv, rfl, hk⟩; obtain ⟨az, cz, rfl⟩ : ∃ a c, zv = .slice a n c := own_slice (hk.row 1 rfl); obtain ⟨al, cl, rfl⟩ : ∃ a c, lv = .slice a m c := own_slice (hk.row 0 rfl); have K1 := Lib.hid ((K0.out.adopt hk).allocAt X.heap.size rfl (.cells #[.slice none 0 0, .slice az n cz, .slice al m cl, .slice none 0 0] 27)); obtain ⟨x0, x1, x2, x3⟩ := row4 (K1.out.at 0 rfl); clear hk))
  obtain ⟨S, hS⟩ : ∃ S, X.heap.size = S := ⟨_, rfl⟩
  obtain ⟨Y1, hY1⟩ : ∃ Y, X.alloc (.cells #[.slice none 0 0, .slice az n cz, .slice al m cl, .slice none 0 0] 27) = Y := ⟨_, rfl⟩
  rw [hY1] at K1 x0 x1 x2 x3 ⊢
  rw [hS] at K1 x0 x1 x2 x3 ⊢
  clear hY1 hS v0 v1 v2 v3
  have HSO := Lib.hid (fun (Y : World) (hY : Kp [(S, .cells #[.slice none 0 0, .slice az n cz, .slice al m cl, .slice none 0 0] 27 (0, 0)), (W.heap.size, .cells #[.int .u8 (z : Int), .int .u8 (l : Int), .slice ta q tc, .int .u8 (t : Int)] 50 (0, 0))] [⟨.slice al m cl, 36, 2, m, Ls.flatMap kcells⟩, ⟨.slice az n cz, 33, 2, n, (zos Zn).flatMap zcells⟩] W Y) => src_own (hY.row 1 rfl) (hY.row 0 rfl) HZl.out HLl.out HZb.out HLb.out)
  go_upto_region 5 with (first
    | (go_at_call 21; refine (checks_ok (.slice none 0 0) _ _ (.slice none 0 0) (zos Zn) Ls 0 0 0 _ (HSO.out _ K1.out) (by rw [HZo.out]; omega) (by rw [HLl.out]; omega) (by rw [zos_names]; exact HFi.out)).mono ?_; rintro e X2 ⟨rfl, hb2⟩; have K2 := Lib.hid (K1.out.keep hb2); obtain ⟨y0, y1, y2, y3⟩ := row4 (K2.out.at 0 rfl); clear hb2)
    | (go_at_call 18; refine (names_any (.slice none 0 0) _ _ (.slice none 0 0) (zos Zn) Ls _ (HSO.out _ K2.out) (by rw [HZo.out]; omega) (by rw [HLl.out]; omega)).mono ?_; rintro e X3 ⟨nv, rfl, hs3, hb3⟩; rw [zos_names, HA.out, HN.out] at hs3; obtain ⟨na, nc, rfl, hnc1, hnc2⟩ := hs3.slA; have HS3 := Lib.hid hs3; have K3 := Lib.hid (K2.out.keep hb3); obtain ⟨z0, z1, z2, z3⟩ := row4 (K3.out.at 0 rfl); clear hb3 hs3))
  clear x0 x1 x2 x3 y0 y1 y2 y3 K1 K2
  have HSV := Lib.hid (fun (Y : World) (hB : Below X3.heap.size X3 Y) => (show SlV Y (.slice na N nc) 1 A.length (A.map svv) by rw [HN.out]; exact HS3.out.keep hB))
  have K3b := Lib.hid (Below.refl X3.heap.size X3)
  go_upto_region 7 with (first
    | (go_at_call 26; refine (sorted_any A _ _ (HSV.out _ K3b.out) HAi.out (by rw [HN.out]; exact hN0)).mono ?_; rintro e X4 ⟨rfl, hb4⟩; have B4 := Lib.hid hb4; clear hb4)
    | (go_at_call 28; refine (clone_strs A _ _ (HSV.out _ B4.out) (by rw [HN.out]; exact hN0) (by rw [HN.out]; omega)).mono ?_; rintro e X5 ⟨cv, rfl, hs5, hb5⟩; have HS5 := Lib.hid hs5; obtain ⟨ca, cc, rfl, _, _⟩ := hs5.slA; rw [HN.out]; have B5 := Lib.hid (B4.out.trans (hb5.mono B4.out.size)); clear hb5 hs5)
    | (go_at_call 27; refine (compact_same A _ _ (by have h := HS5.out; rw [HN.out] at h ⊢; exact h) HAi.out).mono ?_; rintro e X6 ⟨rfl, hb6⟩; have B6 := Lib.hid (B5.out.trans (hb6.mono B5.out.size)); clear hb6))
  clear z0 z1 z2 z3
  have K4 := Lib.hid (K3.out.keep B6.out)
  clear B4 B5 HS5
  obtain ⟨x0, x1, x2, x3⟩ := row4 (K4.out.at 0 rfl)
  go_wp2_with fail
  clear x0 x1 x2 x3
  go_loopw [5, 6, 45] (fun _ _ i45 wr => ∃ i : Nat, i ≤ n ∧ i45 = .int .i64 (i : Int) ∧ Kp [(S, .cells #[.slice none 0 0, .slice az n cz, .slice al m cl, .slice none 0 0] 27 (0, 0)), (W.heap.size, .cells #[.int .u8 (z : Int), .int .u8 (l : Int), .slice ta q tc, .int .u8 (t : Int)] 50 (0, 0))] [⟨.slice al m cl, 36, 2, m, Ls.flatMap kcells⟩, ⟨.slice az n cz, 33, 2, n, (zos Zn).flatMap zcells⟩] W wr ∧ Below X3.heap.size X3 wr) (fun _ _ i45 _ => n - (intOf i45).toNat)
  case atStart => exact ⟨0, by omega, rfl, K4.out, B6.out⟩
  case round =>
    obtain ⟨i, hi', rfl, hk, hbx⟩ := hrel
    have HK := Lib.hid hk
    have HB := Lib.hid hbx
    clear hk hbx K3 K4 B6
    by_cases hlt : i < n
    · obtain ⟨gz, rfl, -, hcz, hczb, hgz⟩ := own_some (HK.out.row 1 rfl) (show 0 < n by omega)
      have hil : i < Zn.length := by rw [HZl.out]; exact hlt
      have hze : (zos Zn)[i]? = some (zo1 (Zn.getD i [])) := by unfold zos; rw [List.getElem?_map, getD_at hil]; rfl
      have c0 := own_cell (HK.out.row 1 rfl) (zo_get hil)
      have c1 := own_cell (HK.out.row 1 rfl) (zo_at (zos Zn) hze).2
      rw [show (zo1 (Zn.getD i [])).2.1 = none from rfl, show (zo1 (Zn.getD i [])).2.2.1 = 0 from rfl, show (zo1 (Zn.getD i [])).2.2.2 = 0 from rfl] at c1
      have HMe := Lib.hid (getD_mem hil)
      have HF := Lib.hid (HZf.out i hlt)
      obtain ⟨x, hx⟩ : ∃ x, Zn.getD i [] = x := ⟨_, rfl⟩
      rw [hx] at HMe HF c0
      obtain ⟨sx, hsx⟩ : ∃ s, bs x = s := ⟨_, rfl⟩
      rw [hsx] at c0
      have HSx := Lib.hid hsx
      have KE := Lib.hid (HK.out.allocAt wr.heap.size rfl (.cells #[.string sx, .slice none 0 0] 33))
      have BE := Lib.hid (HB.out.alloc HB.out.size (.cells #[.string sx, .slice none 0 0] 33))
      have hgw : gz < wr.heap.size := hgz
      clear hx hsx hze
      go_upto_region 10 with fail
      obtain ⟨Y5, hY5⟩ : ∃ Y, wr.alloc (.cells #[.string sx, .slice none 0 0] 33) = Y := ⟨_, rfl⟩
      rw [hY5] at KE BE ⊢
      obtain ⟨bz, hbz⟩ : ∃ b, wr.heap.size = b := ⟨_, rfl⟩
      rw [hbz] at KE ⊢
      clear hY5 hbz c0 c1
      have HSr := Lib.hid (HSO.out Y5 KE.out.drop)
      have CC := Lib.hid (fun (Y : World) (hB : Below Y5.heap.size Y5 Y) => finds_ok (.slice none 0 0) _ _ (.slice none 0 0) (zos Zn) Ls x i 0 Y (HSr.out.keep hB) (by have := HZb.out x HMe.out; unfold maxLen; omega) (by rw [HZo.out]; omega) (by rw [HLl.out]; omega) (by rw [zos_names]; exact HF.out))
      rw [HSx.out] at CC
      have CN := Lib.hid (fun (Y : World) (hB : Below X3.heap.size X3 Y) => contains_yes A _ x sx HSx.out Y (HSV.out Y hB) ((HAm.out x).2 (.inl HMe.out)))
      obtain ⟨x0, x1, x2, x3⟩ := row4 (KE.out.at 1 rfl)
      obtain ⟨y0, y1⟩ := row2 (KE.out.at 0 rfl)
      go_wp2_with (first
        | (go_at_call 22; refine (CC.out _ (Below.refl _ _)).mono ?_; rintro e X7 ⟨rfl, hb7⟩; have K7 := Lib.hid (KE.out.keep hb7); have B7 := Lib.hid (BE.out.trans (hb7.mono BE.out.size)); obtain ⟨w0, w1⟩ := row2 (K7.out.at 0 rfl); clear hb7)
        | (go_at_call 29; refine (CN.out _ B7.out).mono ?_; rintro e X8 ⟨rfl, rfl⟩))
      go_roundw
      case rel => exact ⟨i + 1, by omega, by go_num, K7.out.drop, B7.out⟩
      case measure => simp [intOf]; omega
    · obtain rfl : n = i := by omega
      obtain ⟨x0, x1, x2, x3⟩ := row4 (HK.out.at 0 rfl)
      go_wp2_with fail
      clear x0 x1 x2 x3
      go_loopw [8, 9, 10, 67] (fun _ _ _ i67 wr => ∃ i : Nat, i ≤ m ∧ i67 = .int .i64 (i : Int) ∧ Kp [(S, .cells #[.slice none 0 0, .slice az n cz, .slice al m cl, .slice none 0 0] 27 (0, 0)), (W.heap.size, .cells #[.int .u8 (z : Int), .int .u8 (l : Int), .slice ta q tc, .int .u8 (t : Int)] 50 (0, 0))] [⟨.slice al m cl, 36, 2, m, Ls.flatMap kcells⟩, ⟨.slice az n cz, 33, 2, n, (zos Zn).flatMap zcells⟩] W wr ∧ Below X3.heap.size X3 wr) (fun _ _ _ i67 _ => m - (intOf i67).toNat)
      case atStart => exact ⟨0, by omega, rfl, HK.out, HB.out⟩
      case round =>
        obtain ⟨i, hi', rfl, hk, hbx⟩ := hrel
        have HK2 := Lib.hid hk
        have HB2 := Lib.hid hbx
        clear hk hbx HK HB
        by_cases hlt : i < m
        · obtain ⟨gl, rfl, -, hcl4, hclb, hgl⟩ := own_some (HK2.out.row 0 rfl) (show 0 < m by omega)
          have hil : i < Ls.length := by rw [HLl.out]; exact hlt
          have c0 := own_cell (HK2.out.row 0 rfl) (lk_get hil).1
          have c1 := own_cell (HK2.out.row 0 rfl) (lk_get hil).2
          have HMe := Lib.hid (getP_mem hil)
          obtain ⟨p, hp⟩ : ∃ p, Ls.getD i ([], []) = p := ⟨_, rfl⟩
          rw [hp] at HMe c0 c1
          obtain ⟨j, hj, hf1, hf2⟩ := HLf.out p HMe.out
          have HF1 := Lib.hid hf1
          have HF2 := Lib.hid hf2
          have hjn : ¬ (n : Int) ≤ (j : Int) := by omega
          have hj0 : ¬ (j : Int) < 0 := by omega
          have hjN : ¬ n ≤ j := by omega
          obtain ⟨sn, hsn⟩ : ∃ s, bs p.1 = s := ⟨_, rfl⟩
          obtain ⟨st, hst⟩ : ∃ s, bs p.2 = s := ⟨_, rfl⟩
          rw [hst] at c0
          rw [hsn] at c1
          have HSn := Lib.hid hsn
          have HSt := Lib.hid hst
          have KE := Lib.hid (HK2.out.allocAt wr.heap.size rfl (.cells #[.string st, .string sn] 36))
          have BE := Lib.hid (HB2.out.alloc HB2.out.size (.cells #[.string st, .string sn] 36))
          have hgw : gl < wr.heap.size := hgl
          clear hp hsn hst hf1 hf2
          go_upto_region 16 with fail
          obtain ⟨Y5, hY5⟩ : ∃ Y, wr.alloc (.cells #[.string st, .string sn] 36) = Y := ⟨_, rfl⟩
          rw [hY5] at KE BE ⊢
          obtain ⟨bz, hbz⟩ : ∃ b, wr.heap.size = b := ⟨_, rfl⟩
          rw [hbz] at KE ⊢
          clear hY5 hbz c0 c1
          have HSr := Lib.hid (HSO.out Y5 KE.out.drop)
          have hpl := HLb.out p HMe.out
          have HP1 := Lib.hid (show p.1.length ≤ maxLen by unfold maxLen; omega)
          have HP2 := Lib.hid (show p.2.length ≤ maxLen by unfold maxLen; omega)
          have CF := Lib.hid (find_any (.slice none 0 0) _ _ (.slice none 0 0) (zos Zn) Ls p.2 Y5 HSr.out HP2.out (by rw [HZo.out]; omega) (by rw [HLl.out]; omega))
          rw [HSt.out, zos_names, HF2.out] at CF
          have CC := Lib.hid (fun (Y : World) (hB : Below Y5.heap.size Y5 Y) => finds_ok (.slice none 0 0) _ _ (.slice none 0 0) (zos Zn) Ls p.1 j 0 Y (HSr.out.keep hB) HP1.out (by rw [HZo.out]; omega) (by rw [HLl.out]; omega) (by rw [zos_names]; exact HF1.out))
          rw [HSn.out] at CC
          have CN := Lib.hid (fun (Y : World) (hB : Below X3.heap.size X3 Y) => contains_yes A _ p.1 sn HSn.out Y (HSV.out Y hB) ((HAm.out p.1).2 (.inr (List.mem_map.2 ⟨p, HMe.out, rfl⟩))))
          obtain ⟨x0, x1, x2, x3⟩ := row4 (KE.out.at 1 rfl)
          obtain ⟨y0, y1⟩ := row2 (KE.out.at 0 rfl)
          clear hpl
          go_wp2_with (first
            | (go_at_call 13; refine CF.out.mono ?_; rintro e X6 ⟨rfl, hb6⟩; have B6 := Lib.hid hb6; have K6 := Lib.hid (KE.out.keep hb6); obtain ⟨w0, w1⟩ := row2 (K6.out.at 0 rfl); obtain ⟨z0, z1, z2, z3⟩ := row4 (K6.out.at 1 rfl); clear hb6)
            | (go_at_call 22; refine (CC.out _ B6.out).mono ?_; rintro e X7 ⟨rfl, hb7⟩; have K7 := Lib.hid (K6.out.keep hb7); have B7 := Lib.hid (BE.out.trans ((B6.out.trans (hb7.mono B6.out.size)).mono BE.out.size)); obtain ⟨w2, w3⟩ := row2 (K7.out.at 0 rfl); clear hb7)
            | (go_at_call 29; refine (CN.out _ B7.out).mono ?_; rintro e X8 ⟨rfl, rfl⟩))
          go_roundw
          case rel => exact ⟨i + 1, by omega, by go_num, K7.out.drop, B7.out⟩
          case measure => simp [intOf]; omega
        · obtain rfl : m = i := by omega
          have HSr := Lib.hid (HSO.out wr HK2.out)
          obtain ⟨x0, x1, x2, x3⟩ := row4 (HK2.out.at 0 rfl)
          have C1 := Lib.hid (finds_ok (.slice none 0 0) _ _ (.slice none 0 0) (zos Zn) Ls [76] 0 9 wr HSr.out (by unfold maxLen; decide) (by rw [HZo.out]; omega) (by rw [HLl.out]; omega) (by rw [zos_names]; exact HNo.out _ (by decide)))
          have C2 := Lib.hid (fun (Y : World) (hB : Below wr.heap.size wr Y) => finds_ok (.slice none 0 0) _ _ (.slice none 0 0) (zos Zn) Ls [] 0 9 Y (HSr.out.keep hB) (by unfold maxLen; decide) (by rw [HZo.out]; omega) (by rw [HLl.out]; omega) (by rw [zos_names]; exact HNo.out _ (by decide)))
          go_wp2_with (first
            | (go_at_call_of 22 (Value.string ⟨#[76]⟩); refine C1.out.mono ?_; rintro e X6 ⟨rfl, hb6⟩; have B6 := Lib.hid hb6; have K6 := Lib.hid (HK2.out.keep hb6); obtain ⟨z0, z1, z2, z3⟩ := row4 (K6.out.at 0 rfl); clear hb6)
            | (go_at_call 22; refine (C2.out _ B6.out).mono ?_; rintro e X7 ⟨rfl, hb7⟩; have K7 := Lib.hid (K6.out.keep hb7); clear hb7)
            | (go_at_call 9; refine (CW.out _).mono ?_; rintro e X8 ⟨rfl, hb8⟩; have K8 := Lib.hid (K7.out.keep hb8); clear hb8))
          exact bodyPost_ret (v := .bool true) (by simp [results, Tryd.results7, go_sem]) rfl ⟨rfl, K8.out.below⟩
end Go.Proofs.YtdeompnaojiajaaDoor.Px
