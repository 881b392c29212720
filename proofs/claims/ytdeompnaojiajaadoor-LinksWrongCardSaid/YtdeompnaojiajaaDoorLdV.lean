/- The law LinksWrong of chapter 15, walked: a link twice, a link without a name. -/
import Derived.Test.YtdeompnaojiajaaDoorLdW
namespace Go.Proofs.YtdeompnaojiajaaDoor.Px
open Go.RowKit
open Go.Maps (Keyed)
open Lk Ld

set_option maxHeartbeats 8000000 in
set_option maxRecDepth 100000 in
theorem wrong_4 (z l t wt wh : Nat) (To : List Nat) (tv : Value) (W : World) (hz : z < 256) (hl : l < 256) (ht : t < 256) (hwt : wt < 256) (hwh : wh < 256) (hT : SlV W tv 1 To.length (To.map u8v)) (hTo : ∀ b ∈ To, b < 256) (hE : EnvAt W) (hu : wt % 6 = 4) (hm0 : ¬ l % 13 = 0) :
    Calls Tryd.prog 4 #[.agg #[.int .u8 (z : Int), .int .u8 (l : Int), tv, .int .u8 (t : Int)], .int .u8 (wt : Int), .int .u8 (wh : Int)] W fun e w' => e = .returned (.bool true) ∧ Below W.heap.size W w' := by
  have CM := Lib.hid (fun (Y : World) (hB : Below W.heap.size W Y) => made_any z l t To tv Y hz hl ht (hT.keep hB) hTo (hE.keep hB))
  obtain ⟨n, hn⟩ : ∃ n, 1 + z % 6 = n := ⟨_, rfl⟩
  obtain ⟨m, hm⟩ : ∃ m, l % 13 = m := ⟨_, rfl⟩
  obtain ⟨k, hk⟩ : ∃ k, t % m = k := ⟨_, rfl⟩
  rw [hn, hm, hk] at CM
  rw [hm] at hm0
  obtain ⟨Ls, hLs⟩ : ∃ L, rot k (lkN n m To) = L := ⟨_, rfl⟩
  obtain ⟨Zn, hZn⟩ : ∃ L, zN n t = L := ⟨_, rfl⟩
  rw [hLs, hZn] at CM
  have hn1 : 1 ≤ n := by omega
  have hn6 : n ≤ 6 := by omega
  have hm12 : m ≤ 12 := by omega
  have HLs := Lib.hid hLs
  have HZn := Lib.hid hZn
  have HZl := Lib.hid (show Zn.length = n by rw [← hZn]; exact zN_len)
  have HLl := Lib.hid (show Ls.length = m by rw [← hLs]; exact made_len)
  have HZb := Lib.hid (show ∀ x ∈ Zn, x.length ≤ 100 by rw [← hZn]; exact z_small hn6)
  have HLb := Lib.hid (show ∀ p ∈ Ls, p.1.length ≤ 100 ∧ p.2.length ≤ 100 by rw [← hLs]; exact l_small hn1 hn6 hm12)
  obtain ⟨ta, tc, rfl, htc1, htc2⟩ := hT.slA
  obtain ⟨q, hq⟩ : ∃ q, To.length = q := ⟨_, rfl⟩
  rw [hq] at CM ⊢
  have K0 := Lib.hid ((Kp.start W).allocAt W.heap.size rfl (.cells #[.int .u8 (z : Int), .int .u8 (l : Int), .slice ta q tc, .int .u8 (t : Int)] 50))
  obtain ⟨W1, hW1⟩ : ∃ X, W.alloc (.cells #[.int .u8 (z : Int), .int .u8 (l : Int), .slice ta q tc, .int .u8 (t : Int)] 50) = X := ⟨_, rfl⟩
  rw [hW1] at K0
  obtain ⟨v0, v1, v2, v3⟩ := row4 (K0.out.at 0 rfl)
  obtain ⟨i, hi⟩ : ∃ i, wh % n = i := ⟨_, rfl⟩
  have hin : i < n := by rw [← hi]; exact Nat.mod_lt _ (by omega)
  have hiT : (wh : Int).tmod (n : Int) = (i : Int) := by rw [← hi, Int.tmod_eq_emod_of_nonneg (by omega)]; simp
  have hiI : (wh : Int) % (n : Int) = (i : Int) := by rw [← hi]; simp
  have hn0 : ¬ (n : Int) = 0 := by omega
  have hn00 : ¬ n = 0 := by omega
  have hwi : IntKind.i64.wrap (i : Int) = (i : Int) := IntWalk.i64_in _ (by omega)
  have hww : IntKind.i64.wrap (wh : Int) = (wh : Int) := IntWalk.i64_in _ (by omega)
  obtain ⟨j, hj⟩ : ∃ j, wh % 6 = j := ⟨_, rfl⟩
  have hj6 : j < 6 := by omega
  have hjI : (wh : Int) % 6 = (j : Int) := by omega
  have hj0 : (0 : Int) ≤ (j : Int) := by omega
  have hj6I : (j : Int) < 6 := by omega
  obtain ⟨bd, hbd⟩ : ∃ b, badL j = b := ⟨_, rfl⟩
  obtain ⟨sb, hsb⟩ : ∃ b, bs bd = b := ⟨_, rfl⟩
  have HBd := Lib.hid (show zoneOk bd = false by rw [← hbd]; exact bad_no hj6)
  have HSb := Lib.hid hsb
  have HJ := Lib.hid (show bs (badL j) = sb by rw [hbd]; exact hsb)
  have HBl := Lib.hid (show bd.length ≤ 100 by
    rw [← hbd]
    match j, hj6 with
    | 0, _ => decide
    | 1, _ => decide
    | 2, _ => decide
    | 3, _ => decide
    | 4, _ => decide
    | 5, _ => decide)
  clear hn hm hk hT hTo hE hq hLs hZn hi hj hbd hsb
  go_enter Tryd.func4, Tryd.ntmps4
  go_upto_region 1 with fail
  clear hW1
  go_upto_region 3 with (first | (go_at_call 20; refine (CM.out _ K0.out.below).mono ?_; rintro e X ⟨zv, lv, rfl, hk⟩; obtain ⟨az, cz, rfl⟩ : ∃ a c, zv = .slice a n c := own_slice (hk.row 1 rfl); obtain ⟨al, cl, rfl⟩ : ∃ a c, lv = .slice a m c := own_slice (hk.row 0 rfl); have K1 := Lib.hid ((K0.out.adopt hk).allocAt X.heap.size rfl (.cells #[.slice none 0 0, .slice az n cz, .slice al m cl, .slice none 0 0] 27)); obtain ⟨x0, x1, x2, x3⟩ := row4 (K1.out.at 0 rfl); clear hk))
  obtain ⟨S, hS⟩ : ∃ S, X.heap.size = S := ⟨_, rfl⟩
  obtain ⟨Y1, hY1⟩ : ∃ Y, X.alloc (.cells #[.slice none 0 0, .slice az n cz, .slice al m cl, .slice none 0 0] 27) = Y := ⟨_, rfl⟩
  rw [hY1] at K1 x0 x1 x2 x3 ⊢
  rw [hS] at K1 x0 x1 x2 x3 ⊢
  clear hY1 hS v0 v1 v2 v3
  have K2 := Lib.hid (K1.out.allocAt Y1.heap.size rfl (.cells #[.string ⟨#[]⟩, .string ⟨#[47]⟩, .string ⟨#[65, 47]⟩, .string ⟨#[46, 65]⟩, .string ⟨#[45]⟩, .string ⟨#[65, 32, 66]⟩] 9))
  have hbc := bad_cell (K2.out.at 0 rfl) hj6
  rw [HJ.out] at hbc
  go_upto_region 4 with fail
  clear hbc x0 x1 x2 x3 K1
  obtain ⟨Y2, hY2⟩ : ∃ Y, Y1.alloc (.cells #[.string ⟨#[]⟩, .string ⟨#[47]⟩, .string ⟨#[65, 47]⟩, .string ⟨#[46, 65]⟩, .string ⟨#[45]⟩, .string ⟨#[65, 32, 66]⟩] 9) = Y := ⟨_, rfl⟩
  rw [hY2] at K2 ⊢
  clear hY2
  have K3 := Lib.hid K2.out.drop
  clear K2
  obtain ⟨x0, x1, x2, x3⟩ := row4 (K3.out.at 0 rfl)
  have CW := Lib.hid works_any
  obtain ⟨gz, rfl, -, hcz, hczb, hgz⟩ := own_some (K3.out.row 1 rfl) (show 0 < n by omega)
  have hcz : n ≤ cz := hcz
  have hu0 : ¬ (wt : Int) % 6 = 0 := by omega
  have hu1 : ¬ (wt : Int) % 6 = 1 := by omega
  have hu2 : ¬ (wt : Int) % 6 = 2 := by omega
  have hu3 : ¬ (wt : Int) % 6 = 3 := by omega
  have huI : (wt : Int) % 6 = 4 := by omega
  clear hu
  have hmN : 0 < m := by omega
  have hmI : ¬ (m : Int) = 0 := by omega
  have hmI2 : ¬ m = 0 := by omega
  obtain ⟨gl, rfl, -, hcl4, hclb, hgl⟩ := own_some (K3.out.row 0 rfl) hmN
  have hcl4 : m ≤ cl := hcl4
  obtain ⟨kk, hkk⟩ : ∃ i, wh % m = i := ⟨_, rfl⟩
  have hkm : kk < m := by rw [← hkk]; exact Nat.mod_lt _ (by omega)
  have hkT : (wh : Int).tmod (m : Int) = (kk : Int) := by rw [← hkk, Int.tmod_eq_emod_of_nonneg (by omega)]; simp
  have hkI : (wh : Int) % (m : Int) = (kk : Int) := by rw [← hkk]; simp
  have hwk : IntKind.i64.wrap (kk : Int) = (kk : Int) := IntWalk.i64_in _ (by omega)
  have hkl : kk < Ls.length := by rw [HLl.out]; exact hkm
  have HKL := Lib.hid hkl
  clear hkk hm0 hkl
  obtain ⟨sk, hsk⟩ : ∃ b, bs (Ls.getD kk ([], [])).1 = b := ⟨_, rfl⟩
  obtain ⟨st, hst⟩ : ∃ b, bs (Ls.getD kk ([], [])).2 = b := ⟨_, rfl⟩
  have HSk := Lib.hid hsk
  have HSt := Lib.hid hst
  have HPm := Lib.hid (getP_mem HKL.out)
  clear hsk hst
  have KD := Lib.hid K3.out.drew
  have hc0 := own_cell (KD.out.row 0 rfl) (lk_get HKL.out).1
  have hc1 := own_cell (KD.out.row 0 rfl) (lk_get HKL.out).2
  rw [HSt.out] at hc0
  rw [HSk.out] at hc1
  have hw1 : IntKind.i64.wrap ((m : Int) + 1 - 1) = (m : Int) := by rw [show (m : Int) + 1 - 1 = (m : Int) by omega]; exact IntWalk.i64_in _ (by omega)
  have hwn : IntKind.i64.wrap (m : Int) = (m : Int) := IntWalk.i64_in _ (by omega)
  have HZb2 := HZb
  have HLb2 := Lib.hid (bigP_snoc (x := ((Ls.getD kk ([], [])).1, (Ls.getD kk ([], [])).2)) HLb.out (HLb.out _ HPm.out))
  have HMz := Lib.hid (show zoneOk (Ls.getD kk ([], [])).1 = true by
    have h := HPm.out
    rw [← HLs.out] at h ⊢
    obtain ⟨j', hj', e'⟩ := made_nm.1 (List.mem_map.2 ⟨_, h, rfl⟩)
    rw [e']
    exact lOk (by omega))
  have HMi := Lib.hid (show (Ls.getD kk ([], [])).1 ∈ nm Ls from List.mem_map.2 ⟨_, HPm.out, rfl⟩)
  obtain ⟨il, hlz, hl0, hl1, hl2⟩ := info_partsU infoLn
  obtain ⟨y0, y1, y2, y3⟩ := row4 (KD.out.at 0 rfl)
  have hws : S < Y2.heap.size := K3.out.lt 0 rfl
  go_upto_region 22 with fail
  go_region_law
    (first
    | (refine step_append_kp (by rfl) (.tmp 134) (.tmp 140) 24 (by rfl) (KD.out.allocAt Y2.heap.size rfl (.cells #[.string st, .string sk] 36)) il (.agg #[.string ⟨#[]⟩, .string ⟨#[]⟩]) 32 Tryd.underlying24 hlz hl0 hl1 hl2 (by rfl) (by decide) (by rfl) 0 _ _ _ (by rfl) 1 1 (by rfl) (by rfl) (by simp [Value.oneCell']) (by omega) (by omega) (by omega) ?_; intro g cap w1 hk; have K2 := Lib.hid hk.drop; obtain ⟨b0, b1, b2, b3⟩ := row4 (K2.out.at 0 rfl); have b4 := free_at (K2.out.at 0 rfl) 2; clear hk))
  all_goals
    have K4 := Lib.hid (K2.out.set 0 rfl 2 (.slice (some ⟨g, 0, none⟩) (m + 1) cap) rfl)
    rw [← HSk.out, ← HSt.out, ← lks_snoc _ ((Ls.getD kk ([], [])).1, (Ls.getD kk ([], [])).2)] at K4
    have HSrc := Lib.hid (src_own (K4.out.row 1 rfl) (K4.out.row 0 rfl) (show (Zn).length = n by simp [HZl.out]) (show (Ls ++ [((Ls.getD kk ([], [])).1, (Ls.getD kk ([], [])).2)]).length = (m + 1) by simp [HLl.out]) HZb2.out HLb2.out)
    have CC := Lib.hid (checks_ok (.slice none 0 0) _ _ (.slice none 0 0) (zos (Zn)) (Ls ++ [((Ls.getD kk ([], [])).1, (Ls.getD kk ([], [])).2)]) 3 (m : Int) 10 _ HSrc.out (by unfold zos; simp [HZl.out] <;> omega) (by simp [HLl.out] <;> omega) (by rw [zos_names]; exact by have h1 := HMz.out; have h2 := HMi.out; rw [← HLs.out] at h1 h2 ⊢; rw [← HZn.out]; exact link_more hn1 hn6 hm12 _ (by decide) (.inr ⟨h1, .inr h2, rfl⟩)))
    obtain ⟨x0, x1, x2, x3⟩ := row4 (K4.out.at 0 rfl)
    go_wp2_with (first | (go_at_call 21; refine CC.out.mono ?_; rintro e X2 ⟨rfl, hb2⟩; have K5 := Lib.hid (K4.out.keep hb2); clear hb2) | (go_at_call 9; refine (CW.out _).mono ?_; rintro e X3 ⟨rfl, hb3⟩; have K6 := Lib.hid (K5.out.keep hb3); clear hb3))
    exact bodyPost_ret (v := .bool true) (by simp [results, Tryd.results4, go_sem]) rfl ⟨rfl, K6.out.below⟩
set_option maxHeartbeats 8000000 in
set_option maxRecDepth 100000 in
theorem wrong_5 (z l t wt wh : Nat) (To : List Nat) (tv : Value) (W : World) (hz : z < 256) (hl : l < 256) (ht : t < 256) (hwt : wt < 256) (hwh : wh < 256) (hT : SlV W tv 1 To.length (To.map u8v)) (hTo : ∀ b ∈ To, b < 256) (hE : EnvAt W) (hu : wt % 6 = 5) (hm0 : ¬ l % 13 = 0) :
    Calls Tryd.prog 4 #[.agg #[.int .u8 (z : Int), .int .u8 (l : Int), tv, .int .u8 (t : Int)], .int .u8 (wt : Int), .int .u8 (wh : Int)] W fun e w' => e = .returned (.bool true) ∧ Below W.heap.size W w' := by
  have CM := Lib.hid (fun (Y : World) (hB : Below W.heap.size W Y) => made_any z l t To tv Y hz hl ht (hT.keep hB) hTo (hE.keep hB))
  obtain ⟨n, hn⟩ : ∃ n, 1 + z % 6 = n := ⟨_, rfl⟩
  obtain ⟨m, hm⟩ : ∃ m, l % 13 = m := ⟨_, rfl⟩
  obtain ⟨k, hk⟩ : ∃ k, t % m = k := ⟨_, rfl⟩
  rw [hn, hm, hk] at CM
  rw [hm] at hm0
  obtain ⟨Ls, hLs⟩ : ∃ L, rot k (lkN n m To) = L := ⟨_, rfl⟩
  obtain ⟨Zn, hZn⟩ : ∃ L, zN n t = L := ⟨_, rfl⟩
  rw [hLs, hZn] at CM
  have hn1 : 1 ≤ n := by omega
  have hn6 : n ≤ 6 := by omega
  have hm12 : m ≤ 12 := by omega
  have HLs := Lib.hid hLs
  have HZn := Lib.hid hZn
  have HZl := Lib.hid (show Zn.length = n by rw [← hZn]; exact zN_len)
  have HLl := Lib.hid (show Ls.length = m by rw [← hLs]; exact made_len)
  have HZb := Lib.hid (show ∀ x ∈ Zn, x.length ≤ 100 by rw [← hZn]; exact z_small hn6)
  have HLb := Lib.hid (show ∀ p ∈ Ls, p.1.length ≤ 100 ∧ p.2.length ≤ 100 by rw [← hLs]; exact l_small hn1 hn6 hm12)
  obtain ⟨ta, tc, rfl, htc1, htc2⟩ := hT.slA
  obtain ⟨q, hq⟩ : ∃ q, To.length = q := ⟨_, rfl⟩
  rw [hq] at CM ⊢
  have K0 := Lib.hid ((Kp.start W).allocAt W.heap.size rfl (.cells #[.int .u8 (z : Int), .int .u8 (l : Int), .slice ta q tc, .int .u8 (t : Int)] 50))
  obtain ⟨W1, hW1⟩ : ∃ X, W.alloc (.cells #[.int .u8 (z : Int), .int .u8 (l : Int), .slice ta q tc, .int .u8 (t : Int)] 50) = X := ⟨_, rfl⟩
  rw [hW1] at K0
  obtain ⟨v0, v1, v2, v3⟩ := row4 (K0.out.at 0 rfl)
  obtain ⟨i, hi⟩ : ∃ i, wh % n = i := ⟨_, rfl⟩
  have hin : i < n := by rw [← hi]; exact Nat.mod_lt _ (by omega)
  have hiT : (wh : Int).tmod (n : Int) = (i : Int) := by rw [← hi, Int.tmod_eq_emod_of_nonneg (by omega)]; simp
  have hiI : (wh : Int) % (n : Int) = (i : Int) := by rw [← hi]; simp
  have hn0 : ¬ (n : Int) = 0 := by omega
  have hn00 : ¬ n = 0 := by omega
  have hwi : IntKind.i64.wrap (i : Int) = (i : Int) := IntWalk.i64_in _ (by omega)
  have hww : IntKind.i64.wrap (wh : Int) = (wh : Int) := IntWalk.i64_in _ (by omega)
  obtain ⟨j, hj⟩ : ∃ j, wh % 6 = j := ⟨_, rfl⟩
  have hj6 : j < 6 := by omega
  have hjI : (wh : Int) % 6 = (j : Int) := by omega
  have hj0 : (0 : Int) ≤ (j : Int) := by omega
  have hj6I : (j : Int) < 6 := by omega
  obtain ⟨bd, hbd⟩ : ∃ b, badL j = b := ⟨_, rfl⟩
  obtain ⟨sb, hsb⟩ : ∃ b, bs bd = b := ⟨_, rfl⟩
  have HBd := Lib.hid (show zoneOk bd = false by rw [← hbd]; exact bad_no hj6)
  have HSb := Lib.hid hsb
  have HJ := Lib.hid (show bs (badL j) = sb by rw [hbd]; exact hsb)
  have HBl := Lib.hid (show bd.length ≤ 100 by
    rw [← hbd]
    match j, hj6 with
    | 0, _ => decide
    | 1, _ => decide
    | 2, _ => decide
    | 3, _ => decide
    | 4, _ => decide
    | 5, _ => decide)
  clear hn hm hk hT hTo hE hq hLs hZn hi hj hbd hsb
  go_enter Tryd.func4, Tryd.ntmps4
  go_upto_region 1 with fail
  clear hW1
  go_upto_region 3 with (first | (go_at_call 20; refine (CM.out _ K0.out.below).mono ?_; rintro e X ⟨zv, lv, rfl, hk⟩; obtain ⟨az, cz, rfl⟩ : ∃ a c, zv = .slice a n c := own_slice (hk.row 1 rfl); obtain ⟨al, cl, rfl⟩ : ∃ a c, lv = .slice a m c := own_slice (hk.row 0 rfl); have K1 := Lib.hid ((K0.out.adopt hk).allocAt X.heap.size rfl (.cells #[.slice none 0 0, .slice az n cz, .slice al m cl, .slice none 0 0] 27)); obtain ⟨x0, x1, x2, x3⟩ := row4 (K1.out.at 0 rfl); clear hk))
  obtain ⟨S, hS⟩ : ∃ S, X.heap.size = S := ⟨_, rfl⟩
  obtain ⟨Y1, hY1⟩ : ∃ Y, X.alloc (.cells #[.slice none 0 0, .slice az n cz, .slice al m cl, .slice none 0 0] 27) = Y := ⟨_, rfl⟩
  rw [hY1] at K1 x0 x1 x2 x3 ⊢
  rw [hS] at K1 x0 x1 x2 x3 ⊢
  clear hY1 hS v0 v1 v2 v3
  have K2 := Lib.hid (K1.out.allocAt Y1.heap.size rfl (.cells #[.string ⟨#[]⟩, .string ⟨#[47]⟩, .string ⟨#[65, 47]⟩, .string ⟨#[46, 65]⟩, .string ⟨#[45]⟩, .string ⟨#[65, 32, 66]⟩] 9))
  have hbc := bad_cell (K2.out.at 0 rfl) hj6
  rw [HJ.out] at hbc
  go_upto_region 4 with fail
  clear hbc x0 x1 x2 x3 K1
  obtain ⟨Y2, hY2⟩ : ∃ Y, Y1.alloc (.cells #[.string ⟨#[]⟩, .string ⟨#[47]⟩, .string ⟨#[65, 47]⟩, .string ⟨#[46, 65]⟩, .string ⟨#[45]⟩, .string ⟨#[65, 32, 66]⟩] 9) = Y := ⟨_, rfl⟩
  rw [hY2] at K2 ⊢
  clear hY2
  have K3 := Lib.hid K2.out.drop
  clear K2
  obtain ⟨x0, x1, x2, x3⟩ := row4 (K3.out.at 0 rfl)
  have CW := Lib.hid works_any
  obtain ⟨gz, rfl, -, hcz, hczb, hgz⟩ := own_some (K3.out.row 1 rfl) (show 0 < n by omega)
  have hcz : n ≤ cz := hcz
  have hu0 : ¬ (wt : Int) % 6 = 0 := by omega
  have hu1 : ¬ (wt : Int) % 6 = 1 := by omega
  have hu2 : ¬ (wt : Int) % 6 = 2 := by omega
  have hu3 : ¬ (wt : Int) % 6 = 3 := by omega
  have hu4 : ¬ (wt : Int) % 6 = 4 := by omega
  have huI : (wt : Int) % 6 = 5 := by omega
  clear hu
  have hmN : 0 < m := by omega
  have hmI : ¬ (m : Int) = 0 := by omega
  have hmI2 : ¬ m = 0 := by omega
  obtain ⟨gl, rfl, -, hcl4, hclb, hgl⟩ := own_some (K3.out.row 0 rfl) hmN
  have hcl4 : m ≤ cl := hcl4
  obtain ⟨kk, hkk⟩ : ∃ i, wh % m = i := ⟨_, rfl⟩
  have hkm : kk < m := by rw [← hkk]; exact Nat.mod_lt _ (by omega)
  have hkT : (wh : Int).tmod (m : Int) = (kk : Int) := by rw [← hkk, Int.tmod_eq_emod_of_nonneg (by omega)]; simp
  have hkI : (wh : Int) % (m : Int) = (kk : Int) := by rw [← hkk]; simp
  have hwk : IntKind.i64.wrap (kk : Int) = (kk : Int) := IntWalk.i64_in _ (by omega)
  have hkl : kk < Ls.length := by rw [HLl.out]; exact hkm
  have HKL := Lib.hid hkl
  clear hkk hm0 hkl
  obtain ⟨sk, hsk⟩ : ∃ b, bs (Ls.getD kk ([], [])).1 = b := ⟨_, rfl⟩
  obtain ⟨st, hst⟩ : ∃ b, bs (Ls.getD kk ([], [])).2 = b := ⟨_, rfl⟩
  have HSk := Lib.hid hsk
  have HSt := Lib.hid hst
  have HPm := Lib.hid (getP_mem HKL.out)
  clear hsk hst
  have KD := Lib.hid K3.out.drew
  have hc0 := own_cell (KD.out.row 0 rfl) (lk_get HKL.out).1
  have hc1 := own_cell (KD.out.row 0 rfl) (lk_get HKL.out).2
  rw [HSt.out] at hc0
  rw [HSk.out] at hc1
  have hw1 : IntKind.i64.wrap ((m : Int) + 1 - 1) = (m : Int) := by rw [show (m : Int) + 1 - 1 = (m : Int) by omega]; exact IntWalk.i64_in _ (by omega)
  have hwn : IntKind.i64.wrap (m : Int) = (m : Int) := IntWalk.i64_in _ (by omega)
  have HZb2 := HZb
  have HLb2 := Lib.hid (bigP_snoc (x := (bd, (Ls.getD kk ([], [])).1)) HLb.out ⟨HBl.out, (HLb.out _ HPm.out).1⟩)
  obtain ⟨il, hlz, hl0, hl1, hl2⟩ := info_partsU infoLn
  obtain ⟨y0, y1, y2, y3⟩ := row4 (KD.out.at 0 rfl)
  have hws : S < Y2.heap.size := K3.out.lt 0 rfl
  go_upto_region 24 with fail
  go_region_law
    (first
    | (refine step_append_kp (by rfl) (.tmp 153) (.tmp 162) 24 (by rfl) (KD.out.allocAt Y2.heap.size rfl (.cells #[.string sk, .string sb] 36)) il (.agg #[.string ⟨#[]⟩, .string ⟨#[]⟩]) 32 Tryd.underlying24 hlz hl0 hl1 hl2 (by rfl) (by decide) (by rfl) 0 _ _ _ (by rfl) 1 1 (by rfl) (by rfl) (by simp [Value.oneCell']) (by omega) (by omega) (by omega) ?_; intro g cap w1 hk; have K2 := Lib.hid hk.drop; obtain ⟨b0, b1, b2, b3⟩ := row4 (K2.out.at 0 rfl); have b4 := free_at (K2.out.at 0 rfl) 2; clear hk))
  all_goals
    have K4 := Lib.hid (K2.out.set 0 rfl 2 (.slice (some ⟨g, 0, none⟩) (m + 1) cap) rfl)
    rw [← HSk.out, ← HSb.out, ← lks_snoc _ (bd, (Ls.getD kk ([], [])).1)] at K4
    have HSrc := Lib.hid (src_own (K4.out.row 1 rfl) (K4.out.row 0 rfl) (show (Zn).length = n by simp [HZl.out]) (show (Ls ++ [(bd, (Ls.getD kk ([], [])).1)]).length = (m + 1) by simp [HLl.out]) HZb2.out HLb2.out)
    have CC := Lib.hid (checks_ok (.slice none 0 0) _ _ (.slice none 0 0) (zos (Zn)) (Ls ++ [(bd, (Ls.getD kk ([], [])).1)]) 3 (m : Int) 9 _ HSrc.out (by unfold zos; simp [HZl.out] <;> omega) (by simp [HLl.out] <;> omega) (by rw [zos_names]; exact by rw [← HLs.out, ← HZn.out]; exact link_more hn1 hn6 hm12 _ (by decide) (.inl ⟨HBd.out, rfl⟩)))
    obtain ⟨x0, x1, x2, x3⟩ := row4 (K4.out.at 0 rfl)
    go_wp2_with (first | (go_at_call 21; refine CC.out.mono ?_; rintro e X2 ⟨rfl, hb2⟩; have K5 := Lib.hid (K4.out.keep hb2); clear hb2) | (go_at_call 9; refine (CW.out _).mono ?_; rintro e X3 ⟨rfl, hb3⟩; have K6 := Lib.hid (K5.out.keep hb3); clear hb3))
    exact bodyPost_ret (v := .bool true) (by simp [results, Tryd.results4, go_sem]) rfl ⟨rfl, K6.out.below⟩
end Go.Proofs.YtdeompnaojiajaaDoor.Px
