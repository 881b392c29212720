/- The law FlattenRefuses of chapter 35, walked: a link with the name of a zone. -/
import Derived.Test.YtnffecoohkanhaaDoorYFtS
import Derived.Test.YtnffecoohkanhaaDoorM9
import Derived.Test.YtnffecoohkanhaaDoorM8
import Derived.Deep.DeepCutAuto
namespace Go.Proofs.YtnffecoohkanhaaDoor.Px
open Go.RowKit
open Go.Maps (Keyed)
open Lk Ld
open Py

set_option maxHeartbeats 8000000 in
set_option maxRecDepth 100000 in
theorem refuse_1 (z l t wt wh : Nat) (To : List Nat) (tv : Value) (W : World) (hz : z < 256) (hl : l < 256) (ht : t < 256) (hwt : wt < 256) (hwh : wh < 256) (hT : SlV W tv 1 To.length (To.map u8v)) (hTo : ∀ b ∈ To, b < 256) (hE : EnvAt W) (hu : wt % 4 = 1) :
    Calls Tryd.prog 5 #[.agg #[.int .u8 (z : Int), .int .u8 (l : Int), tv, .int .u8 (t : Int)], .int .u8 (wt : Int), .int .u8 (wh : Int)] W fun e w' => e = .returned (.bool true) ∧ Below W.heap.size W w' := by
  have CM := Lib.hid (fun (Y : World) (hB : Below W.heap.size W Y) => made_any z l t To tv Y hz hl ht (hT.keep hB) hTo (hE.keep hB))
  obtain ⟨n, hn⟩ : ∃ n, 1 + z % 6 = n := ⟨_, rfl⟩
  obtain ⟨m, hm⟩ : ∃ m, l % 13 = m := ⟨_, rfl⟩
  obtain ⟨k, hk⟩ : ∃ k, t % m = k := ⟨_, rfl⟩
  rw [hn, hm, hk] at CM
  obtain ⟨Ls, hLs⟩ : ∃ L, rot k (lkN n m To) = L := ⟨_, rfl⟩
  obtain ⟨Zn, hZn⟩ : ∃ L, zN n t = L := ⟨_, rfl⟩
  rw [hLs, hZn] at CM
  have hn1 : 1 ≤ n := by omega
  have hn6 : n ≤ 6 := by omega
  have hm12 : m ≤ 12 := by omega
  have HLs := Lib.hid hLs
  have HZn := Lib.hid hZn
  have HZl := Lib.hid (show Zn.length = n by rw [← hZn]; exact zN_len)
  have HLl := Lib.hid (show Ls.length = m by rw [← hLs]; exact made_len)
  have HZb := Lib.hid (show ∀ x ∈ Zn, x.length ≤ 100 by rw [← hZn]; exact z_small hn6)
  have HLb := Lib.hid (show ∀ p ∈ Ls, p.1.length ≤ 100 ∧ p.2.length ≤ 100 by rw [← hLs]; exact l_small hn1 hn6 hm12)
  obtain ⟨ta, tc, rfl, htc1, htc2⟩ := hT.slA
  obtain ⟨q, hq⟩ : ∃ q, To.length = q := ⟨_, rfl⟩
  rw [hq] at CM ⊢
  have K0 := Lib.hid ((Kp.start W).allocAt W.heap.size rfl (.cells #[.int .u8 (z : Int), .int .u8 (l : Int), .slice ta q tc, .int .u8 (t : Int)] 56))
  obtain ⟨W1, hW1⟩ : ∃ X, W.alloc (.cells #[.int .u8 (z : Int), .int .u8 (l : Int), .slice ta q tc, .int .u8 (t : Int)] 56) = X := ⟨_, rfl⟩
  rw [hW1] at K0
  obtain ⟨v0, v1, v2, v3⟩ := row4 (K0.out.at 0 rfl)
  obtain ⟨i, hi⟩ : ∃ i, wh % n = i := ⟨_, rfl⟩
  have hin : i < n := by rw [← hi]; exact Nat.mod_lt _ (by omega)
  have hiT : (wh : Int).tmod (n : Int) = (i : Int) := by rw [← hi, Int.tmod_eq_emod_of_nonneg (by omega)]; simp
  have hiI : (wh : Int) % (n : Int) = (i : Int) := by rw [← hi]; simp
  have hn0 : ¬ (n : Int) = 0 := by omega
  have hn00 : ¬ n = 0 := by omega
  have hwi : IntKind.i64.wrap (i : Int) = (i : Int) := IntWalk.i64_in _ (by omega)
  have hww : IntKind.i64.wrap (wh : Int) = (wh : Int) := IntWalk.i64_in _ (by omega)
  clear hn hm hk hT hTo hE hq hLs hZn hi
  go_enter Tryd.func5, Tryd.ntmps5
  go_upto_region 1 with fail
  clear hW1
  go_upto_block 0 with (first | (go_at_call 20; refine (CM.out _ K0.out.below).mono ?_; rintro e X ⟨zv, lv, rfl, hk⟩; obtain ⟨az, cz, rfl⟩ : ∃ a c, zv = .slice a n c := own_slice (hk.row 1 rfl); obtain ⟨al, cl, rfl⟩ : ∃ a c, lv = .slice a m c := own_slice (hk.row 0 rfl); have K1 := Lib.hid ((K0.out.adopt hk).allocAt X.heap.size rfl (.cells #[.slice none 0 0, .slice az n cz, .slice al m cl, .slice none 0 0] 27)); obtain ⟨x0, x1, x2, x3⟩ := row4 (K1.out.at 0 rfl); clear hk))
  obtain ⟨S, hS⟩ : ∃ S, X.heap.size = S := ⟨_, rfl⟩
  obtain ⟨Y2, hY2⟩ : ∃ Y, X.alloc (.cells #[.slice none 0 0, .slice az n cz, .slice al m cl, .slice none 0 0] 27) = Y := ⟨_, rfl⟩
  rw [hY2] at K1 x0 x1 x2 x3 ⊢
  rw [hS] at K1 x0 x1 x2 x3 ⊢
  clear hY2 hS v0 v1 v2 v3
  have K3 := K1
  have CW := Lib.hid works35_any
  obtain ⟨gz, rfl, -, hcz, hczb, hgz⟩ := own_some (K3.out.row 1 rfl) (show 0 < n by omega)
  have hcz : n ≤ cz := hcz
  have hu0 : ¬ (wt : Int) % 4 = 0 := by omega
  have huI : (wt : Int) % 4 = 1 := by omega
  clear hu
  have h0n : (0 : Int) < (n : Int) := by omega
  have h0nN : 0 < n := by omega
  have hin2 : (i : Int) < (n : Int) := by omega
  have hi0 : (0 : Int) ≤ (i : Int) := by omega
  have HCI := Lib.hid (zo_get (l := Zn) (i := i) (by rw [HZl.out]; exact hin))
  have HC0 := Lib.hid (zo_get (l := Zn) (i := 0) (by rw [HZl.out]; omega))
  obtain ⟨si, hsi⟩ : ∃ b, bs (Zn.getD i []) = b := ⟨_, rfl⟩
  obtain ⟨s0, hs0⟩ : ∃ b, bs (Zn.getD 0 []) = b := ⟨_, rfl⟩
  rw [hsi] at HCI
  rw [hs0, Nat.zero_mul] at HC0
  have HSi := Lib.hid hsi
  have HS0 := Lib.hid hs0
  clear hsi hs0
  have HMi := getD_mem (l := Zn) (i := i) (by rw [HZl.out]; exact hin)
  have HZb2 := HZb
  have HLb2 := Lib.hid (bigP_snoc (x := (Zn.getD i [], Zn.getD 0 [])) HLb.out ⟨HZb.out _ HMi, HZb.out _ (getD_mem (l := Zn) (i := 0) (by rw [HZl.out]; omega))⟩)
  have HMz := Lib.hid (show zoneOk (Zn.getD i []) = true by
    rw [← HZn.out] at HMi ⊢
    obtain ⟨j', hj', e'⟩ := zN_mem.1 HMi
    rw [e']
    exact zOk (by omega))
  have HMi := Lib.hid HMi
  obtain ⟨il, hlz, hl0, hl1, hl2⟩ := info_partsU infoLn
  go_cut [8, 15] (fun v8 _ wx => v8 = .int .i64 10 ∧ ∃ g cap, Kp [(S, .cells #[.slice none 0 0, .slice (some ⟨gz, 0, none⟩) n cz, .slice (some ⟨g, 0, none⟩) (m + 1) cap, .slice none 0 0] 27 (0, 0)), (W.heap.size, .cells #[.int .u8 (z : Int), .int .u8 (l : Int), .slice ta q tc, .int .u8 (t : Int)] 56 (0, 0))] [⟨.slice (some ⟨g, 0, none⟩) (m + 1) cap, 43, 2, m + 1, (Ls ++ [(Zn.getD i [], Zn.getD 0 [])]).flatMap kcells⟩, ⟨.slice (some ⟨gz, 0, none⟩) n cz, 40, 2, n, (zos Zn).flatMap zcells⟩] W wx)
  case first =>
    clear HMz HMi HLb2 HZb2 HLb HZb CW HLs HZn HZl HLl CM
    go_upto_region 9 with fail
    clear x0 x1 x2 x3
    refine wp_region_kps_tail 22 (by kernel_rfl) (by kernel_rfl) W _ [⟨.slice (some ⟨gz, 0, none⟩) n cz, 40, 2, n, (zos Zn).flatMap zcells⟩] [⟨20, 62, ⟨.slice al m cl, 43, 2, m, Ls.flatMap kcells⟩, m + 1, Ls.flatMap kcells ++ [.string s0, .string si]⟩] [] (by kernel_rfl) (kkS [(42, .eq (.pointer (some ⟨S, 2, none⟩))), (43, .eq (.slice al m cl)), (44, .eq (.pointer (some ⟨S, 1, none⟩))), (45, .eq (.slice (some ⟨gz, 0, none⟩) n cz)), (46, .eq (.pointer (some ⟨gz, 0, none⟩))), (47, .eq (.pointer (some ⟨gz, 0, none⟩))), (48, .eq (.string s0)), (49, .eq (.pointer (some ⟨S, 1, none⟩))), (50, .eq (.slice (some ⟨gz, 0, none⟩) n cz)), (51, .eq (.int .u8 (wh : Int))), (52, .eq (.int .i64 (wh : Int))), (53, .eq (.pointer (some ⟨S, 1, none⟩))), (54, .eq (.slice (some ⟨gz, 0, none⟩) n cz)), (55, .eq (.int .i64 (n : Int))), (56, .eq (.int .i64 (i : Int))), (57, .eq (.pointer (some ⟨gz, i * 2, none⟩))), (58, .eq (.pointer (some ⟨gz, i * 2, none⟩))), (59, .eq (.string si)), (60, .eq (.agg #[.string s0, .string si])), (61, .blk 1 #[.string s0, .string si] 43), (63, .eq (.pointer (some ⟨S, 2, none⟩)))]) (by kernel_rfl) ?hat (of_decide_eq_true (by kernel_rfl)) (by kernel_rfl) (kkS_mono _) K3.out ?steps ?hend
    case hat =>
      intro j hj
      simp only [List.mem_cons, List.not_mem_nil, or_false] at hj
      subst hj
      exact ⟨_, rfl, rfl⟩
    case steps =>
      refine stepsK_n 42 rfl (by kernel_rfl) ?_ ?_
      · intro TT D w lq R hk hF K hK0
        have hK := Lib.hid hK0
        have q7 : TT[7]?.getD undef = .pointer (some ⟨S, 0, none⟩) := hF.old 7 (by kernel_rfl)
        have hk := Lib.hid hk
        clear hK0 hF
        go_simp
        exact hK.out _ _ _ hk.out (fun _ hp => hp) rfl
      refine stepsK_n 43 rfl (by kernel_rfl) ?_ ?_
      · intro TT D w lq R hk hF K hK0
        have hK := Lib.hid hK0
        have q42 : TT[42]?.getD undef = .pointer (some ⟨S, 2, none⟩) := hF.on 0 (by kernel_rfl) (by kernel_rfl) rfl rfl
        have c : _ := row4 (hk.atM (hF.sub _ (List.mem_cons_self ..)))
        obtain ⟨c0, c1, c2, c3⟩ := c
        have hk := Lib.hid hk
        clear hK0 hF
        go_simp
        exact hK.out _ _ _ hk.out (fun _ hp => hp) rfl
      refine stepsK_n 44 rfl (by kernel_rfl) ?_ ?_
      · intro TT D w lq R hk hF K hK0
        have hK := Lib.hid hK0
        have q7 : TT[7]?.getD undef = .pointer (some ⟨S, 0, none⟩) := hF.old 7 (by kernel_rfl)
        have hk := Lib.hid hk
        clear hK0 hF
        go_simp
        exact hK.out _ _ _ hk.out (fun _ hp => hp) rfl
      refine stepsK_n 45 rfl (by kernel_rfl) ?_ ?_
      · intro TT D w lq R hk hF K hK0
        have hK := Lib.hid hK0
        have q44 : TT[44]?.getD undef = .pointer (some ⟨S, 1, none⟩) := hF.on 2 (by kernel_rfl) (by kernel_rfl) rfl rfl
        have c : _ := row4 (hk.atM (hF.sub _ (List.mem_cons_self ..)))
        obtain ⟨c0, c1, c2, c3⟩ := c
        have hk := Lib.hid hk
        clear hK0 hF
        go_simp
        exact hK.out _ _ _ hk.out (fun _ hp => hp) rfl
      refine stepsK_n 46 rfl (by kernel_rfl) ?_ ?_
      · intro TT D w lq R hk hF K hK0
        have hK := Lib.hid hK0
        have q45 : TT[45]?.getD undef = .slice (some ⟨gz, 0, none⟩) n cz := hF.on 3 (by kernel_rfl) (by kernel_rfl) rfl rfl
        have hk := Lib.hid hk
        clear hK0 hF
        go_simp
        exact hK.out _ _ _ hk.out (fun _ hp => hp) rfl
      refine stepsK_n 47 rfl (by kernel_rfl) ?_ ?_
      · intro TT D w lq R hk hF K hK0
        have hK := Lib.hid hK0
        have q46 : TT[46]?.getD undef = .pointer (some ⟨gz, 0, none⟩) := hF.on 4 (by kernel_rfl) (by kernel_rfl) rfl rfl
        have hk := Lib.hid hk
        clear hK0 hF
        go_simp
        exact hK.out _ _ _ hk.out (fun _ hp => hp) rfl
      refine stepsK_n 48 rfl (by kernel_rfl) ?_ ?_
      · intro TT D w lq R hk hF K hK0
        have hK := Lib.hid hK0
        have q47 : TT[47]?.getD undef = .pointer (some ⟨gz, 0, none⟩) := hF.on 5 (by kernel_rfl) (by kernel_rfl) rfl rfl
        have c : _ := own_cell (hk.own _ (List.mem_append_right _ (List.mem_cons_self ..))) HC0.out
        have hk := Lib.hid hk
        clear hK0 hF
        go_simp
        exact hK.out _ _ _ hk.out (fun _ hp => hp) rfl
      refine stepsK_n 49 rfl (by kernel_rfl) ?_ ?_
      · intro TT D w lq R hk hF K hK0
        have hK := Lib.hid hK0
        have q7 : TT[7]?.getD undef = .pointer (some ⟨S, 0, none⟩) := hF.old 7 (by kernel_rfl)
        have hk := Lib.hid hk
        clear hK0 hF
        go_simp
        exact hK.out _ _ _ hk.out (fun _ hp => hp) rfl
      refine stepsK_n 50 rfl (by kernel_rfl) ?_ ?_
      · intro TT D w lq R hk hF K hK0
        have hK := Lib.hid hK0
        have q49 : TT[49]?.getD undef = .pointer (some ⟨S, 1, none⟩) := hF.on 7 (by kernel_rfl) (by kernel_rfl) rfl rfl
        have c : _ := row4 (hk.atM (hF.sub _ (List.mem_cons_self ..)))
        obtain ⟨c0, c1, c2, c3⟩ := c
        have hk := Lib.hid hk
        clear hK0 hF
        go_simp
        exact hK.out _ _ _ hk.out (fun _ hp => hp) rfl
      refine stepsK_n 51 rfl (by kernel_rfl) ?_ ?_
      · intro TT D w lq R hk hF K hK0
        have hK := Lib.hid hK0
        have q2 : TT[2]?.getD undef = .int .u8 (wh : Int) := hF.old 2 (by kernel_rfl)
        have hk := Lib.hid hk
        clear hK0 hF
        go_simp
        exact hK.out _ _ _ hk.out (fun _ hp => hp) rfl
      refine stepsK_n 52 rfl (by kernel_rfl) ?_ ?_
      · intro TT D w lq R hk hF K hK0
        have hK := Lib.hid hK0
        have q51 : TT[51]?.getD undef = .int .u8 (wh : Int) := hF.on 9 (by kernel_rfl) (by kernel_rfl) rfl rfl
        have hk := Lib.hid hk
        clear hK0 hF
        go_simp
        exact hK.out _ _ _ hk.out (fun _ hp => hp) rfl
      refine stepsK_n 53 rfl (by kernel_rfl) ?_ ?_
      · intro TT D w lq R hk hF K hK0
        have hK := Lib.hid hK0
        have q7 : TT[7]?.getD undef = .pointer (some ⟨S, 0, none⟩) := hF.old 7 (by kernel_rfl)
        have hk := Lib.hid hk
        clear hK0 hF
        go_simp
        exact hK.out _ _ _ hk.out (fun _ hp => hp) rfl
      refine stepsK_n 54 rfl (by kernel_rfl) ?_ ?_
      · intro TT D w lq R hk hF K hK0
        have hK := Lib.hid hK0
        have q53 : TT[53]?.getD undef = .pointer (some ⟨S, 1, none⟩) := hF.on 11 (by kernel_rfl) (by kernel_rfl) rfl rfl
        have c : _ := row4 (hk.atM (hF.sub _ (List.mem_cons_self ..)))
        obtain ⟨c0, c1, c2, c3⟩ := c
        have hk := Lib.hid hk
        clear hK0 hF
        go_simp
        exact hK.out _ _ _ hk.out (fun _ hp => hp) rfl
      refine stepsK_n 55 rfl (by kernel_rfl) ?_ ?_
      · intro TT D w lq R hk hF K hK0
        have hK := Lib.hid hK0
        have q54 : TT[54]?.getD undef = .slice (some ⟨gz, 0, none⟩) n cz := hF.on 12 (by kernel_rfl) (by kernel_rfl) rfl rfl
        have hk := Lib.hid hk
        clear hK0 hF
        go_simp
        exact hK.out _ _ _ hk.out (fun _ hp => hp) rfl
      refine stepsK_n 56 rfl (by kernel_rfl) ?_ ?_
      · intro TT D w lq R hk hF K hK0
        have hK := Lib.hid hK0
        have q52 : TT[52]?.getD undef = .int .i64 (wh : Int) := hF.on 10 (by kernel_rfl) (by kernel_rfl) rfl rfl
        have q55 : TT[55]?.getD undef = .int .i64 (n : Int) := hF.on 13 (by kernel_rfl) (by kernel_rfl) rfl rfl
        have hk := Lib.hid hk
        clear hK0 hF
        go_simp
        exact hK.out _ _ _ hk.out (fun _ hp => hp) rfl
      refine stepsK_n 57 rfl (by kernel_rfl) ?_ ?_
      · intro TT D w lq R hk hF K hK0
        have hK := Lib.hid hK0
        have q50 : TT[50]?.getD undef = .slice (some ⟨gz, 0, none⟩) n cz := hF.on 8 (by kernel_rfl) (by kernel_rfl) rfl rfl
        have q56 : TT[56]?.getD undef = .int .i64 (i : Int) := hF.on 14 (by kernel_rfl) (by kernel_rfl) rfl rfl
        have hk := Lib.hid hk
        clear hK0 hF
        go_simp
        exact hK.out _ _ _ hk.out (fun _ hp => hp) rfl
      refine stepsK_n 58 rfl (by kernel_rfl) ?_ ?_
      · intro TT D w lq R hk hF K hK0
        have hK := Lib.hid hK0
        have q57 : TT[57]?.getD undef = .pointer (some ⟨gz, i * 2, none⟩) := hF.on 15 (by kernel_rfl) (by kernel_rfl) rfl rfl
        have hk := Lib.hid hk
        clear hK0 hF
        go_simp
        exact hK.out _ _ _ hk.out (fun _ hp => hp) rfl
      refine stepsK_n 59 rfl (by kernel_rfl) ?_ ?_
      · intro TT D w lq R hk hF K hK0
        have hK := Lib.hid hK0
        have q58 : TT[58]?.getD undef = .pointer (some ⟨gz, i * 2, none⟩) := hF.on 16 (by kernel_rfl) (by kernel_rfl) rfl rfl
        have c : _ := own_cell (hk.own _ (List.mem_append_right _ (List.mem_cons_self ..))) HCI.out
        have hk := Lib.hid hk
        clear hK0 hF
        go_simp
        exact hK.out _ _ _ hk.out (fun _ hp => hp) rfl
      refine stepsK_n 60 rfl (by kernel_rfl) ?_ ?_
      · intro TT D w lq R hk hF K hK0
        have hK := Lib.hid hK0
        have q48 : TT[48]?.getD undef = .string s0 := hF.on 6 (by kernel_rfl) (by kernel_rfl) rfl rfl
        have q59 : TT[59]?.getD undef = .string si := hF.on 17 (by kernel_rfl) (by kernel_rfl) rfl rfl
        have hk := Lib.hid hk
        clear hK0 hF
        go_simp
        exact hK.out _ _ _ hk.out (fun _ hp => hp) rfl
      refine stepsK_n 61 rfl (by kernel_rfl) ?_ ?_
      · intro TT D w lq R hk hF K hK0
        have hK := Lib.hid hK0
        have q60 : TT[60]?.getD undef = .agg #[.string s0, .string si] := hF.on 18 (by kernel_rfl) (by kernel_rfl) rfl rfl
        have hk := Lib.hid hk
        clear hK0 hF
        go_simp
        exact hK.out _ _ _ (hk.out.alloc _) (fun _ hp => List.mem_cons_of_mem _ hp) ⟨_, rfl, List.mem_cons_self ..⟩
      refine stepsK_j _ rfl ?_ ?_
      · intro TT D w lq R hk hF K hK0
        have hK := Lib.hid hK0
        have q1 : TT[43]?.getD undef = .slice al m cl := hF.on 1 (by kernel_rfl) (by kernel_rfl) rfl rfl
        obtain ⟨bb, q2, hbm⟩ := (show KK.S (.blk 1 #[.string s0, .string si] 43) lq (TT[61]?.getD undef) none from hF.on 19 (by kernel_rfl) (by kernel_rfl) rfl rfl)
        exact job_append rfl (.tmp 43) (.tmp 61) 24 rfl hk il (.agg #[.string ⟨#[]⟩, .string ⟨#[]⟩]) 32 Tryd.underlying24 hlz hl0 hl1 hl2 rfl (by decide) (eval_tmp q1) hbm 1 1 (eval_tmp q2) rfl (by simp [Value.oneCell']) (by omega) (by omega) (by omega) (fun v' w' hk' => hK.out v' w' hk')
      refine stepsK_n 63 rfl (by kernel_rfl) ?_ ?_
      · intro TT D w lq R hk hF K hK0
        have hK := Lib.hid hK0
        have q7 : TT[7]?.getD undef = .pointer (some ⟨S, 0, none⟩) := hF.old 7 (by kernel_rfl)
        have hk := Lib.hid hk
        clear hK0 hF
        go_simp
        exact hK.out _ _ _ hk.out (fun _ hp => hp) rfl
      exact stepsK_nil
    case hend =>
      intro TT w lq hsz hk hsub hold hS
      obtain ⟨G, hG⟩ : ∃ G : Nat → Value, ∀ t, TT[t]?.getD undef = G t := ⟨_, fun _ => rfl⟩
      have hk2 := hk
      simp only [List.map_cons, List.map_nil, Job.row, hG, List.cons_append, List.nil_append] at hk2
      have KM := hk2.sub K3.out hsub
      obtain ⟨ga, gc, e62⟩ := own_slice (KM.row 0 rfl)
      dsimp only at e62
      rw [e62] at KM
      obtain ⟨g, rfl, -⟩ := own_some (KM.row 0 rfl) (show 0 < m + 1 by omega)
      have KN := Lib.hid KM
      have e' := tmps_mix [42, 43, 44, 45, 46, 47, 48, 49, 50, 51, 52, 53, 54, 55, 56, 57, 58, 59, 60, 61, 62, 63] (by kernel_rfl) hsz hold
      simp only [List.foldl_cons, List.foldl_nil, hG, List.setIfInBounds_toArray, List.set_cons_zero, List.set_cons_succ] at e'
      have e63 : G 63 = .pointer (some ⟨S, 2, none⟩) := by
        have := (show KK.S (.eq (.pointer (some ⟨S, 2, none⟩))) lq (TT[63]?.getD undef) none from hS 21 _ 63 rfl rfl (by kernel_rfl))
        rw [hG] at this
        exact this
      rw [e', e62, e63]
      clear e' e62 e63 hold hS hG hsz hk hk2 hsub KM
      obtain ⟨y0, y1, y2, y3⟩ := row4 (KN.out.at 0 rfl)
      have y4 := free_at (KN.out.at 0 rfl) 2
      simp only [List.drop_succ_cons, List.drop_zero, TailWp]
      go_simp
      have K4 := Lib.hid (KN.out.set 0 rfl 2 (.slice (some ⟨g, 0, none⟩) (m + 1) gc) rfl)
      rw [← HSi.out, ← HS0.out, ← lks_snoc _ (Zn.getD i [], Zn.getD 0 [])] at K4
      go_wp2_with fail
      go_meet
      exact ⟨rfl, g, gc, K4.out⟩
  case rest =>
    obtain ⟨rfl, g, cap, hk⟩ := hcut
    have K4 := Lib.hid hk
    clear hk x0 x1 x2 x3
    have HZ2 := Lib.hid (show (Zn).length = n by simp [HZl.out])
    have HL2 := Lib.hid (show (Ls ++ [(Zn.getD i [], Zn.getD 0 [])]).length = (m + 1) by simp [HLl.out])
    have HSrc := Lib.hid (src_own (K4.out.row 1 rfl) (K4.out.row 0 rfl) HZ2.out HL2.out HZb2.out HLb2.out)
    have HLn := Lib.hid (own_hln (K4.out.row 0 rfl))
    have CL := Lib.hid (links35_badn _ _ (Zn) (Ls ++ [(Zn.getD i [], Zn.getD 0 [])]) _ HSrc.out (by rw [HL2.out]; exact HLn.out) (by rw [HL2.out]; omega) (by rw [HZ2.out]; omega) 10 (by have h1 := HMz.out; have h2 := HMi.out; rw [← HZn.out] at h1 h2 ⊢; rw [← HLs.out]; exact congrArg Prod.snd (link_more hn1 hn6 hm12 _ (by decide) (.inr ⟨h1, .inl h2, rfl⟩))) (by decide))
    have CS := Lib.hid (fun (Y : World) (hB : Below _ _ Y) => sort35_q _ _ (Zn) (Ls ++ [(Zn.getD i [], Zn.getD 0 [])]) Y (HSrc.out.keep hB) (by rw [HL2.out]; exact HLn.out) (by rw [HL2.out]; omega) (by rw [HZ2.out]; omega))
    obtain ⟨x0, x1, x2, x3⟩ := row4 (K4.out.at 0 rfl)
    go_wp2_with (first
      | (go_at_call 14; refine CL.out.mono ?_; rintro e X5 ⟨rfl, hb5⟩; have B5 := Lib.hid (hb5.alloc (by have := hb5.size; omega) (.cells #[.slice none 0 0, .slice none 0 0, .slice none 0 0, .slice none 0 0] 27)); have K5 := Lib.hid ((K4.out.keep hb5).allocAt X5.heap.size rfl (.cells #[.slice none 0 0, .slice none 0 0, .slice none 0 0, .slice none 0 0] 27)); obtain ⟨x0, x1, x2, x3⟩ := row4 (K5.out.at 1 rfl); clear hb5 CL)
      | (go_at_call 17; refine (CS.out _ B5.out).mono ?_; rintro e X6 ⟨v6, _, _, _, rfl, -, -, -, -, ⟨ra, rc, zo, zp, lo, lp, so, sp, ev⟩, hb6⟩; rw [HZ2.out, HL2.out] at ev; subst ev; have K6 := Lib.hid ((K5.out.keep hb6).allocAt X6.heap.size rfl (.cells #[.slice ra 0 rc, .slice zo n zp, .slice lo (m + 1) lp, .slice so 0 sp] 27)); obtain ⟨x0, x1, x2, x3⟩ := row4 (K6.out.at 2 rfl); obtain ⟨y0, y1, y2, y3⟩ := row4 (K6.out.at 1 rfl); obtain ⟨z0, z1, z2, z3⟩ := row4 (K6.out.at 0 rfl); clear hb6 CS)
      | (go_at_call 9; refine (CW.out _).mono ?_; rintro e X7 ⟨rfl, hb7⟩; have K7 := Lib.hid (K6.out.keep hb7); clear hb7))
    exact bodyPost_ret (v := .bool true) (by simp [results, Tryd.results5, go_sem]) rfl ⟨rfl, K7.out.below⟩
end Go.Proofs.YtnffecoohkanhaaDoor.Px
