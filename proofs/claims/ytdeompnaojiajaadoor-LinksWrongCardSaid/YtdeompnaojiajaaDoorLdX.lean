/- The law LinksWrong of chapter 15, walked: zones that are spoilt; no links; a target that is not known. -/
import Derived.Test.YtdeompnaojiajaaDoorLdW
namespace Go.Proofs.YtdeompnaojiajaaDoor.Px
open Go.RowKit
open Go.Maps (Keyed)
open Lk Ld

set_option maxHeartbeats 8000000 in
set_option maxRecDepth 100000 in
theorem wrong_0 (z l t wt wh : Nat) (To : List Nat) (tv : Value) (W : World) (hz : z < 256) (hl : l < 256) (ht : t < 256) (hwt : wt < 256) (hwh : wh < 256) (hT : SlV W tv 1 To.length (To.map u8v)) (hTo : ∀ b ∈ To, b < 256) (hE : EnvAt W) (hu : wt % 6 = 0) :
    Calls Tryd.prog 4 #[.agg #[.int .u8 (z : Int), .int .u8 (l : Int), tv, .int .u8 (t : Int)], .int .u8 (wt : Int), .int .u8 (wh : Int)] W fun e w' => e = .returned (.bool true) ∧ Below W.heap.size W w' := by
  have CM := Lib.hid (fun (Y : World) (hB : Below W.heap.size W Y) => made_any z l t To tv Y hz hl ht (hT.keep hB) hTo (hE.keep hB))
  obtain ⟨n, hn⟩ : ∃ n, 1 + z % 6 = n := ⟨_, rfl⟩
  obtain ⟨m, hm⟩ : ∃ m, l % 13 = m := ⟨_, rfl⟩
  obtain ⟨k, hk⟩ : ∃ k, t % m = k := ⟨_, rfl⟩
  rw [hn, hm, hk] at CM
  obtain ⟨Ls, hLs⟩ : ∃ L, rot k (lkN n m To) = L := ⟨_, rfl⟩
  obtain ⟨Zn, hZn⟩ : ∃ L, zN n t = L := ⟨_, rfl⟩
  rw [hLs, hZn] at CM
  have hn1 : 1 ≤ n := by omega
  have hn6 : n ≤ 6 := by omega
  have hm12 : m ≤ 12 := by omega
  have HLs := Lib.hid hLs
  have HZn := Lib.hid hZn
  have HZl := Lib.hid (show Zn.length = n by rw [← hZn]; exact zN_len)
  have HLl := Lib.hid (show Ls.length = m by rw [← hLs]; exact made_len)
  have HZb := Lib.hid (show ∀ x ∈ Zn, x.length ≤ 100 by rw [← hZn]; exact z_small hn6)
  have HLb := Lib.hid (show ∀ p ∈ Ls, p.1.length ≤ 100 ∧ p.2.length ≤ 100 by rw [← hLs]; exact l_small hn1 hn6 hm12)
  obtain ⟨ta, tc, rfl, htc1, htc2⟩ := hT.slA
  obtain ⟨q, hq⟩ : ∃ q, To.length = q := ⟨_, rfl⟩
  rw [hq] at CM ⊢
  have K0 := Lib.hid ((Kp.start W).allocAt W.heap.size rfl (.cells #[.int .u8 (z : Int), .int .u8 (l : Int), .slice ta q tc, .int .u8 (t : Int)] 50))
  obtain ⟨W1, hW1⟩ : ∃ X, W.alloc (.cells #[.int .u8 (z : Int), .int .u8 (l : Int), .slice ta q tc, .int .u8 (t : Int)] 50) = X := ⟨_, rfl⟩
  rw [hW1] at K0
  obtain ⟨v0, v1, v2, v3⟩ := row4 (K0.out.at 0 rfl)
  obtain ⟨i, hi⟩ : ∃ i, wh % n = i := ⟨_, rfl⟩
  have hin : i < n := by rw [← hi]; exact Nat.mod_lt _ (by omega)
  have hiT : (wh : Int).tmod (n : Int) = (i : Int) := by rw [← hi, Int.tmod_eq_emod_of_nonneg (by omega)]; simp
  have hiI : (wh : Int) % (n : Int) = (i : Int) := by rw [← hi]; simp
  have hn0 : ¬ (n : Int) = 0 := by omega
  have hn00 : ¬ n = 0 := by omega
  have hwi : IntKind.i64.wrap (i : Int) = (i : Int) := IntWalk.i64_in _ (by omega)
  have hww : IntKind.i64.wrap (wh : Int) = (wh : Int) := IntWalk.i64_in _ (by omega)
  obtain ⟨j, hj⟩ : ∃ j, wh % 6 = j := ⟨_, rfl⟩
  have hj6 : j < 6 := by omega
  have hjI : (wh : Int) % 6 = (j : Int) := by omega
  have hj0 : (0 : Int) ≤ (j : Int) := by omega
  have hj6I : (j : Int) < 6 := by omega
  obtain ⟨bd, hbd⟩ : ∃ b, badL j = b := ⟨_, rfl⟩
  obtain ⟨sb, hsb⟩ : ∃ b, bs bd = b := ⟨_, rfl⟩
  have HBd := Lib.hid (show zoneOk bd = false by rw [← hbd]; exact bad_no hj6)
  have HSb := Lib.hid hsb
  have HJ := Lib.hid (show bs (badL j) = sb by rw [hbd]; exact hsb)
  have HBl := Lib.hid (show bd.length ≤ 100 by
    rw [← hbd]
    match j, hj6 with
    | 0, _ => decide
    | 1, _ => decide
    | 2, _ => decide
    | 3, _ => decide
    | 4, _ => decide
    | 5, _ => decide)
  clear hn hm hk hT hTo hE hq hLs hZn hi hj hbd hsb
  go_enter Tryd.func4, Tryd.ntmps4
  go_upto_region 1 with fail
  clear hW1
  go_upto_region 3 with (first | (go_at_call 20; refine (CM.out _ K0.out.below).mono ?_; rintro e X ⟨zv, lv, rfl, hk⟩; obtain ⟨az, cz, rfl⟩ : ∃ a c, zv = .slice a n c := own_slice (hk.row 1 rfl); obtain ⟨al, cl, rfl⟩ : ∃ a c, lv = .slice a m c := own_slice (hk.row 0 rfl); have K1 := Lib.hid ((K0.out.adopt hk).allocAt X.heap.size rfl (.cells #[.slice none 0 0, .slice az n cz, .slice al m cl, .slice none 0 0] 27)); obtain ⟨x0, x1, x2, x3⟩ := row4 (K1.out.at 0 rfl); clear hk))
  obtain ⟨S, hS⟩ : ∃ S, X.heap.size = S := ⟨_, rfl⟩
  obtain ⟨Y1, hY1⟩ : ∃ Y, X.alloc (.cells #[.slice none 0 0, .slice az n cz, .slice al m cl, .slice none 0 0] 27) = Y := ⟨_, rfl⟩
  rw [hY1] at K1 x0 x1 x2 x3 ⊢
  rw [hS] at K1 x0 x1 x2 x3 ⊢
  clear hY1 hS v0 v1 v2 v3
  have K2 := Lib.hid (K1.out.allocAt Y1.heap.size rfl (.cells #[.string ⟨#[]⟩, .string ⟨#[47]⟩, .string ⟨#[65, 47]⟩, .string ⟨#[46, 65]⟩, .string ⟨#[45]⟩, .string ⟨#[65, 32, 66]⟩] 9))
  have hbc := bad_cell (K2.out.at 0 rfl) hj6
  rw [HJ.out] at hbc
  go_upto_region 4 with fail
  clear hbc x0 x1 x2 x3 K1
  obtain ⟨Y2, hY2⟩ : ∃ Y, Y1.alloc (.cells #[.string ⟨#[]⟩, .string ⟨#[47]⟩, .string ⟨#[65, 47]⟩, .string ⟨#[46, 65]⟩, .string ⟨#[45]⟩, .string ⟨#[65, 32, 66]⟩] 9) = Y := ⟨_, rfl⟩
  rw [hY2] at K2 ⊢
  clear hY2
  have K3 := Lib.hid K2.out.drop
  clear K2
  obtain ⟨x0, x1, x2, x3⟩ := row4 (K3.out.at 0 rfl)
  have CW := Lib.hid works_any
  obtain ⟨gz, rfl, -, hcz, hczb, hgz⟩ := own_some (K3.out.row 1 rfl) (show 0 < n by omega)
  have hcz : n ≤ cz := hcz
  have huI : (wt : Int) % 6 = 0 := by omega
  clear hu
  have K4 := Lib.hid (K3.out.swap.put (show 0 < n by omega) (i * 2) (.string sb))
  rw [← HSb.out, zos_set] at K4
  have hfr := K3.out.swap.free (show 0 < n by omega) (i * 2)
  have hcl := own_cell (K3.out.row 1 rfl) (zo_get (l := Zn) (i := i) (by rw [HZl.out]; exact hin))
  go_upto_region 7 with fail
  rw [HSb.out] at K4
  clear hcl hfr x0 x1 x2 x3
  obtain ⟨Y3, hY3⟩ : ∃ Y, Y2.setCell ⟨gz, i * 2, none⟩ (.string sb) = Y := ⟨_, rfl⟩
  rw [hY3] at K4 ⊢
  clear hY3
  have HZb2 := Lib.hid (big_set (i := i) HZb.out HBl.out)
  have HLb2 := HLb
  have HSrc := Lib.hid (src_own (K4.out.row 0 rfl) (K4.out.row 1 rfl) (show (Zn.set i bd).length = n by simp [HZl.out]) (show (Ls).length = m by simp [HLl.out]) HZb2.out HLb2.out)
  have CC := Lib.hid (checks_ok (.slice none 0 0) _ _ (.slice none 0 0) (zos (Zn.set i bd)) (Ls) 2 (i : Int) 9 _ HSrc.out (by unfold zos; simp [HZl.out] <;> omega) (by simp [HLl.out] <;> omega) (by rw [zos_names]; exact by rw [← HZn.out]; exact bad_zone hn6 hin HBd.out Ls))
  obtain ⟨x0, x1, x2, x3⟩ := row4 (K4.out.at 0 rfl)
  go_wp2_with (first | (go_at_call 21; refine CC.out.mono ?_; rintro e X2 ⟨rfl, hb2⟩; have K5 := Lib.hid (K4.out.keep hb2); clear hb2) | (go_at_call 9; refine (CW.out _).mono ?_; rintro e X3 ⟨rfl, hb3⟩; have K6 := Lib.hid (K5.out.keep hb3); clear hb3))
  exact bodyPost_ret (v := .bool true) (by simp [results, Tryd.results4, go_sem]) rfl ⟨rfl, K6.out.below⟩
set_option maxHeartbeats 8000000 in
set_option maxRecDepth 100000 in
theorem wrong_m (z l t wt wh : Nat) (To : List Nat) (tv : Value) (W : World) (hz : z < 256) (hl : l < 256) (ht : t < 256) (hwt : wt < 256) (hwh : wh < 256) (hT : SlV W tv 1 To.length (To.map u8v)) (hTo : ∀ b ∈ To, b < 256) (hE : EnvAt W) (hu : 3 ≤ wt % 6) (hm0 : l % 13 = 0) :
    Calls Tryd.prog 4 #[.agg #[.int .u8 (z : Int), .int .u8 (l : Int), tv, .int .u8 (t : Int)], .int .u8 (wt : Int), .int .u8 (wh : Int)] W fun e w' => e = .returned (.bool true) ∧ Below W.heap.size W w' := by
  have CM := Lib.hid (fun (Y : World) (hB : Below W.heap.size W Y) => made_any z l t To tv Y hz hl ht (hT.keep hB) hTo (hE.keep hB))
  obtain ⟨n, hn⟩ : ∃ n, 1 + z % 6 = n := ⟨_, rfl⟩
  obtain ⟨m, hm⟩ : ∃ m, l % 13 = m := ⟨_, rfl⟩
  obtain ⟨k, hk⟩ : ∃ k, t % m = k := ⟨_, rfl⟩
  rw [hn, hm, hk] at CM
  rw [hm] at hm0
  have HM0 := Lib.hid hm0
  clear hm0
  obtain ⟨Ls, hLs⟩ : ∃ L, rot k (lkN n m To) = L := ⟨_, rfl⟩
  obtain ⟨Zn, hZn⟩ : ∃ L, zN n t = L := ⟨_, rfl⟩
  rw [hLs, hZn] at CM
  have hn1 : 1 ≤ n := by omega
  have hn6 : n ≤ 6 := by omega
  have hm12 : m ≤ 12 := by omega
  have HLs := Lib.hid hLs
  have HZn := Lib.hid hZn
  have HZl := Lib.hid (show Zn.length = n by rw [← hZn]; exact zN_len)
  have HLl := Lib.hid (show Ls.length = m by rw [← hLs]; exact made_len)
  have HZb := Lib.hid (show ∀ x ∈ Zn, x.length ≤ 100 by rw [← hZn]; exact z_small hn6)
  have HLb := Lib.hid (show ∀ p ∈ Ls, p.1.length ≤ 100 ∧ p.2.length ≤ 100 by rw [← hLs]; exact l_small hn1 hn6 hm12)
  obtain ⟨ta, tc, rfl, htc1, htc2⟩ := hT.slA
  obtain ⟨q, hq⟩ : ∃ q, To.length = q := ⟨_, rfl⟩
  rw [hq] at CM ⊢
  have K0 := Lib.hid ((Kp.start W).allocAt W.heap.size rfl (.cells #[.int .u8 (z : Int), .int .u8 (l : Int), .slice ta q tc, .int .u8 (t : Int)] 50))
  obtain ⟨W1, hW1⟩ : ∃ X, W.alloc (.cells #[.int .u8 (z : Int), .int .u8 (l : Int), .slice ta q tc, .int .u8 (t : Int)] 50) = X := ⟨_, rfl⟩
  rw [hW1] at K0
  obtain ⟨v0, v1, v2, v3⟩ := row4 (K0.out.at 0 rfl)
  obtain ⟨i, hi⟩ : ∃ i, wh % n = i := ⟨_, rfl⟩
  have hin : i < n := by rw [← hi]; exact Nat.mod_lt _ (by omega)
  have hiT : (wh : Int).tmod (n : Int) = (i : Int) := by rw [← hi, Int.tmod_eq_emod_of_nonneg (by omega)]; simp
  have hiI : (wh : Int) % (n : Int) = (i : Int) := by rw [← hi]; simp
  have hn0 : ¬ (n : Int) = 0 := by omega
  have hn00 : ¬ n = 0 := by omega
  have hwi : IntKind.i64.wrap (i : Int) = (i : Int) := IntWalk.i64_in _ (by omega)
  have hww : IntKind.i64.wrap (wh : Int) = (wh : Int) := IntWalk.i64_in _ (by omega)
  obtain ⟨j, hj⟩ : ∃ j, wh % 6 = j := ⟨_, rfl⟩
  have hj6 : j < 6 := by omega
  have hjI : (wh : Int) % 6 = (j : Int) := by omega
  have hj0 : (0 : Int) ≤ (j : Int) := by omega
  have hj6I : (j : Int) < 6 := by omega
  obtain ⟨bd, hbd⟩ : ∃ b, badL j = b := ⟨_, rfl⟩
  obtain ⟨sb, hsb⟩ : ∃ b, bs bd = b := ⟨_, rfl⟩
  have HBd := Lib.hid (show zoneOk bd = false by rw [← hbd]; exact bad_no hj6)
  have HSb := Lib.hid hsb
  have HJ := Lib.hid (show bs (badL j) = sb by rw [hbd]; exact hsb)
  have HBl := Lib.hid (show bd.length ≤ 100 by
    rw [← hbd]
    match j, hj6 with
    | 0, _ => decide
    | 1, _ => decide
    | 2, _ => decide
    | 3, _ => decide
    | 4, _ => decide
    | 5, _ => decide)
  clear hn hm hk hT hTo hE hq hLs hZn hi hj hbd hsb
  go_enter Tryd.func4, Tryd.ntmps4
  go_upto_region 1 with fail
  clear hW1
  go_upto_region 3 with (first | (go_at_call 20; refine (CM.out _ K0.out.below).mono ?_; rintro e X ⟨zv, lv, rfl, hk⟩; obtain ⟨az, cz, rfl⟩ : ∃ a c, zv = .slice a n c := own_slice (hk.row 1 rfl); obtain ⟨al, cl, rfl⟩ : ∃ a c, lv = .slice a m c := own_slice (hk.row 0 rfl); have K1 := Lib.hid ((K0.out.adopt hk).allocAt X.heap.size rfl (.cells #[.slice none 0 0, .slice az n cz, .slice al m cl, .slice none 0 0] 27)); obtain ⟨x0, x1, x2, x3⟩ := row4 (K1.out.at 0 rfl); clear hk))
  obtain ⟨S, hS⟩ : ∃ S, X.heap.size = S := ⟨_, rfl⟩
  obtain ⟨Y1, hY1⟩ : ∃ Y, X.alloc (.cells #[.slice none 0 0, .slice az n cz, .slice al m cl, .slice none 0 0] 27) = Y := ⟨_, rfl⟩
  rw [hY1] at K1 x0 x1 x2 x3 ⊢
  rw [hS] at K1 x0 x1 x2 x3 ⊢
  clear hY1 hS v0 v1 v2 v3
  have K2 := Lib.hid (K1.out.allocAt Y1.heap.size rfl (.cells #[.string ⟨#[]⟩, .string ⟨#[47]⟩, .string ⟨#[65, 47]⟩, .string ⟨#[46, 65]⟩, .string ⟨#[45]⟩, .string ⟨#[65, 32, 66]⟩] 9))
  have hbc := bad_cell (K2.out.at 0 rfl) hj6
  rw [HJ.out] at hbc
  go_upto_region 4 with fail
  clear hbc x0 x1 x2 x3 K1
  obtain ⟨Y2, hY2⟩ : ∃ Y, Y1.alloc (.cells #[.string ⟨#[]⟩, .string ⟨#[47]⟩, .string ⟨#[65, 47]⟩, .string ⟨#[46, 65]⟩, .string ⟨#[45]⟩, .string ⟨#[65, 32, 66]⟩] 9) = Y := ⟨_, rfl⟩
  rw [hY2] at K2 ⊢
  clear hY2
  have K3 := Lib.hid K2.out.drop
  clear K2
  obtain ⟨x0, x1, x2, x3⟩ := row4 (K3.out.at 0 rfl)
  have CW := Lib.hid works_any
  obtain ⟨gz, rfl, -, hcz, hczb, hgz⟩ := own_some (K3.out.row 1 rfl) (show 0 < n by omega)
  have hcz : n ≤ cz := hcz
  have hu0 : ¬ (wt : Int) % 6 = 0 := by omega
  have hu1 : ¬ (wt : Int) % 6 = 1 := by omega
  have hu2 : ¬ (wt : Int) % 6 = 2 := by omega
  have HU := Lib.hid hu
  clear hu
  have hm0 := HM0.out
  subst hm0
  have K4 := K3
  have HZb2 := HZb
  have HLb2 := HLb
  have HSrc := Lib.hid (src_own (K4.out.row 1 rfl) (K4.out.row 0 rfl) (show (Zn).length = n by simp [HZl.out]) (show (Ls).length = 0 by simp [HLl.out]) HZb2.out HLb2.out)
  have CC := Lib.hid (checks_ok (.slice none 0 0) _ _ (.slice none 0 0) (zos (Zn)) (Ls) 0 0 0 _ HSrc.out (by unfold zos; simp [HZl.out] <;> omega) (by simp [HLl.out] <;> omega) (by rw [zos_names]; exact by rw [← HZn.out, ← HLs.out]; exact made_fine hn1 hn6 hm12))
  obtain ⟨x0, x1, x2, x3⟩ := row4 (K4.out.at 0 rfl)
  go_wp2_with (first | (go_at_call 21; refine CC.out.mono ?_; rintro e X2 ⟨rfl, hb2⟩; have K5 := Lib.hid (K4.out.keep hb2); clear hb2) | (go_at_call 9; refine (CW.out _).mono ?_; rintro e X3 ⟨rfl, hb3⟩; have K6 := Lib.hid (K5.out.keep hb3); clear hb3))
  exact bodyPost_ret (v := .bool true) (by simp [results, Tryd.results4, go_sem]) rfl ⟨rfl, K6.out.below⟩
set_option maxHeartbeats 8000000 in
set_option maxRecDepth 100000 in
theorem wrong_3 (z l t wt wh : Nat) (To : List Nat) (tv : Value) (W : World) (hz : z < 256) (hl : l < 256) (ht : t < 256) (hwt : wt < 256) (hwh : wh < 256) (hT : SlV W tv 1 To.length (To.map u8v)) (hTo : ∀ b ∈ To, b < 256) (hE : EnvAt W) (hu : wt % 6 = 3) (hm0 : ¬ l % 13 = 0) :
    Calls Tryd.prog 4 #[.agg #[.int .u8 (z : Int), .int .u8 (l : Int), tv, .int .u8 (t : Int)], .int .u8 (wt : Int), .int .u8 (wh : Int)] W fun e w' => e = .returned (.bool true) ∧ Below W.heap.size W w' := by
  have CM := Lib.hid (fun (Y : World) (hB : Below W.heap.size W Y) => made_any z l t To tv Y hz hl ht (hT.keep hB) hTo (hE.keep hB))
  obtain ⟨n, hn⟩ : ∃ n, 1 + z % 6 = n := ⟨_, rfl⟩
  obtain ⟨m, hm⟩ : ∃ m, l % 13 = m := ⟨_, rfl⟩
  obtain ⟨k, hk⟩ : ∃ k, t % m = k := ⟨_, rfl⟩
  rw [hn, hm, hk] at CM
  rw [hm] at hm0
  obtain ⟨Ls, hLs⟩ : ∃ L, rot k (lkN n m To) = L := ⟨_, rfl⟩
  obtain ⟨Zn, hZn⟩ : ∃ L, zN n t = L := ⟨_, rfl⟩
  rw [hLs, hZn] at CM
  have hn1 : 1 ≤ n := by omega
  have hn6 : n ≤ 6 := by omega
  have hm12 : m ≤ 12 := by omega
  have HLs := Lib.hid hLs
  have HZn := Lib.hid hZn
  have HZl := Lib.hid (show Zn.length = n by rw [← hZn]; exact zN_len)
  have HLl := Lib.hid (show Ls.length = m by rw [← hLs]; exact made_len)
  have HZb := Lib.hid (show ∀ x ∈ Zn, x.length ≤ 100 by rw [← hZn]; exact z_small hn6)
  have HLb := Lib.hid (show ∀ p ∈ Ls, p.1.length ≤ 100 ∧ p.2.length ≤ 100 by rw [← hLs]; exact l_small hn1 hn6 hm12)
  obtain ⟨ta, tc, rfl, htc1, htc2⟩ := hT.slA
  obtain ⟨q, hq⟩ : ∃ q, To.length = q := ⟨_, rfl⟩
  rw [hq] at CM ⊢
  have K0 := Lib.hid ((Kp.start W).allocAt W.heap.size rfl (.cells #[.int .u8 (z : Int), .int .u8 (l : Int), .slice ta q tc, .int .u8 (t : Int)] 50))
  obtain ⟨W1, hW1⟩ : ∃ X, W.alloc (.cells #[.int .u8 (z : Int), .int .u8 (l : Int), .slice ta q tc, .int .u8 (t : Int)] 50) = X := ⟨_, rfl⟩
  rw [hW1] at K0
  obtain ⟨v0, v1, v2, v3⟩ := row4 (K0.out.at 0 rfl)
  obtain ⟨i, hi⟩ : ∃ i, wh % n = i := ⟨_, rfl⟩
  have hin : i < n := by rw [← hi]; exact Nat.mod_lt _ (by omega)
  have hiT : (wh : Int).tmod (n : Int) = (i : Int) := by rw [← hi, Int.tmod_eq_emod_of_nonneg (by omega)]; simp
  have hiI : (wh : Int) % (n : Int) = (i : Int) := by rw [← hi]; simp
  have hn0 : ¬ (n : Int) = 0 := by omega
  have hn00 : ¬ n = 0 := by omega
  have hwi : IntKind.i64.wrap (i : Int) = (i : Int) := IntWalk.i64_in _ (by omega)
  have hww : IntKind.i64.wrap (wh : Int) = (wh : Int) := IntWalk.i64_in _ (by omega)
  obtain ⟨j, hj⟩ : ∃ j, wh % 6 = j := ⟨_, rfl⟩
  have hj6 : j < 6 := by omega
  have hjI : (wh : Int) % 6 = (j : Int) := by omega
  have hj0 : (0 : Int) ≤ (j : Int) := by omega
  have hj6I : (j : Int) < 6 := by omega
  obtain ⟨bd, hbd⟩ : ∃ b, badL j = b := ⟨_, rfl⟩
  obtain ⟨sb, hsb⟩ : ∃ b, bs bd = b := ⟨_, rfl⟩
  have HBd := Lib.hid (show zoneOk bd = false by rw [← hbd]; exact bad_no hj6)
  have HSb := Lib.hid hsb
  have HJ := Lib.hid (show bs (badL j) = sb by rw [hbd]; exact hsb)
  have HBl := Lib.hid (show bd.length ≤ 100 by
    rw [← hbd]
    match j, hj6 with
    | 0, _ => decide
    | 1, _ => decide
    | 2, _ => decide
    | 3, _ => decide
    | 4, _ => decide
    | 5, _ => decide)
  clear hn hm hk hT hTo hE hq hLs hZn hi hj hbd hsb
  go_enter Tryd.func4, Tryd.ntmps4
  go_upto_region 1 with fail
  clear hW1
  go_upto_region 3 with (first | (go_at_call 20; refine (CM.out _ K0.out.below).mono ?_; rintro e X ⟨zv, lv, rfl, hk⟩; obtain ⟨az, cz, rfl⟩ : ∃ a c, zv = .slice a n c := own_slice (hk.row 1 rfl); obtain ⟨al, cl, rfl⟩ : ∃ a c, lv = .slice a m c := own_slice (hk.row 0 rfl); have K1 := Lib.hid ((K0.out.adopt hk).allocAt X.heap.size rfl (.cells #[.slice none 0 0, .slice az n cz, .slice al m cl, .slice none 0 0] 27)); obtain ⟨x0, x1, x2, x3⟩ := row4 (K1.out.at 0 rfl); clear hk))
  obtain ⟨S, hS⟩ : ∃ S, X.heap.size = S := ⟨_, rfl⟩
  obtain ⟨Y1, hY1⟩ : ∃ Y, X.alloc (.cells #[.slice none 0 0, .slice az n cz, .slice al m cl, .slice none 0 0] 27) = Y := ⟨_, rfl⟩
  rw [hY1] at K1 x0 x1 x2 x3 ⊢
  rw [hS] at K1 x0 x1 x2 x3 ⊢
  clear hY1 hS v0 v1 v2 v3
  have K2 := Lib.hid (K1.out.allocAt Y1.heap.size rfl (.cells #[.string ⟨#[]⟩, .string ⟨#[47]⟩, .string ⟨#[65, 47]⟩, .string ⟨#[46, 65]⟩, .string ⟨#[45]⟩, .string ⟨#[65, 32, 66]⟩] 9))
  have hbc := bad_cell (K2.out.at 0 rfl) hj6
  rw [HJ.out] at hbc
  go_upto_region 4 with fail
  clear hbc x0 x1 x2 x3 K1
  obtain ⟨Y2, hY2⟩ : ∃ Y, Y1.alloc (.cells #[.string ⟨#[]⟩, .string ⟨#[47]⟩, .string ⟨#[65, 47]⟩, .string ⟨#[46, 65]⟩, .string ⟨#[45]⟩, .string ⟨#[65, 32, 66]⟩] 9) = Y := ⟨_, rfl⟩
  rw [hY2] at K2 ⊢
  clear hY2
  have K3 := Lib.hid K2.out.drop
  clear K2
  obtain ⟨x0, x1, x2, x3⟩ := row4 (K3.out.at 0 rfl)
  have CW := Lib.hid works_any
  obtain ⟨gz, rfl, -, hcz, hczb, hgz⟩ := own_some (K3.out.row 1 rfl) (show 0 < n by omega)
  have hcz : n ≤ cz := hcz
  have hu0 : ¬ (wt : Int) % 6 = 0 := by omega
  have hu1 : ¬ (wt : Int) % 6 = 1 := by omega
  have hu2 : ¬ (wt : Int) % 6 = 2 := by omega
  have huI : (wt : Int) % 6 = 3 := by omega
  clear hu
  have hmN : 0 < m := by omega
  have hmI : ¬ (m : Int) = 0 := by omega
  have hmI2 : ¬ m = 0 := by omega
  obtain ⟨gl, rfl, -, hcl4, hclb, hgl⟩ := own_some (K3.out.row 0 rfl) hmN
  have hcl4 : m ≤ cl := hcl4
  obtain ⟨kk, hkk⟩ : ∃ i, wh % m = i := ⟨_, rfl⟩
  have hkm : kk < m := by rw [← hkk]; exact Nat.mod_lt _ (by omega)
  have hkT : (wh : Int).tmod (m : Int) = (kk : Int) := by rw [← hkk, Int.tmod_eq_emod_of_nonneg (by omega)]; simp
  have hkI : (wh : Int) % (m : Int) = (kk : Int) := by rw [← hkk]; simp
  have hwk : IntKind.i64.wrap (kk : Int) = (kk : Int) := IntWalk.i64_in _ (by omega)
  have hkl : kk < Ls.length := by rw [HLl.out]; exact hkm
  have HKL := Lib.hid hkl
  clear hkk hm0 hkl
  obtain ⟨sk, hsk⟩ : ∃ b, bs (Ls.getD kk ([], [])).1 = b := ⟨_, rfl⟩
  obtain ⟨st, hst⟩ : ∃ b, bs (Ls.getD kk ([], [])).2 = b := ⟨_, rfl⟩
  have HSk := Lib.hid hsk
  have HSt := Lib.hid hst
  have HPm := Lib.hid (getP_mem HKL.out)
  clear hsk hst
  have K4 := Lib.hid (K3.out.put (show 0 < m by omega) (kk * 2) (.string ⟨#[76, 57, 57]⟩))
  rw [show (⟨#[76, 57, 57]⟩ : ByteArray) = bs [76, 57, 57] from rfl, lks_set _ _ _ HKL.out] at K4
  have hfr := K3.out.free (show 0 < m by omega) (kk * 2)
  have hcl := own_cell (K3.out.row 0 rfl) (lk_get HKL.out).1
  go_upto_region 20 with fail
  clear hcl hfr x0 x1 x2 x3
  obtain ⟨Y3, hY3⟩ : ∃ Y, Y2.setCell ⟨gl, kk * 2, none⟩ (.string ⟨#[76, 57, 57]⟩) = Y := ⟨_, rfl⟩
  rw [show bs [76, 57, 57] = (⟨#[76, 57, 57]⟩ : ByteArray) from rfl, hY3] at K4
  rw [hY3]
  clear hY3
  have HF := far_link (n := n) (t := t) (m := m) (k := k) (To := To) hn1 hn6 hm12 hkm HLs.out
  rw [HZn.out] at HF
  obtain ⟨L2, hL2⟩ : ∃ L, Ls.set kk ((Ls.getD kk ([], [])).1, [76, 57, 57]) = L := ⟨_, rfl⟩
  have HN2 := Lib.hid (show (L2.getD kk ([], [])).1 = (Ls.getD kk ([], [])).1 by rw [← hL2, List.getD, List.getElem?_set_self HKL.out]; rfl)
  have HL2 := Lib.hid (show L2.length = m by rw [← hL2, List.length_set, HLl.out])
  have HLb2 := Lib.hid (show ∀ p ∈ L2, p.1.length ≤ 100 ∧ p.2.length ≤ 100 by rw [← hL2]; exact bigP_set HLb.out ⟨(HLb.out _ HPm.out).1, (show ([76, 57, 57] : List UInt8).length ≤ 100 by decide)⟩)
  rw [hL2] at K4 HF
  have HF := Lib.hid HF
  clear hL2
  have HSrc := Lib.hid (src_own (K4.out.row 1 rfl) (K4.out.row 0 rfl) HZl.out HL2.out HZb.out HLb2.out)
  have CC := Lib.hid (fun (Y : World) (hB : Below Y3.heap.size Y3 Y) => checks_ok (.slice none 0 0) _ _ (.slice none 0 0) (zos Zn) L2 3 (kk : Int) 9 Y (HSrc.out.keep hB) (by unfold zos; simp [HZl.out] <;> omega) (by rw [HL2.out]; omega) (by rw [zos_names]; exact HF.out.1))
  have CF := Lib.hid (fun (Y : World) (hB : Below Y3.heap.size Y3 Y) => finds_ok (.slice none 0 0) _ _ (.slice none 0 0) (zos Zn) L2 (Ls.getD kk ([], [])).1 0 9 Y (HSrc.out.keep hB) (by have := (HLb.out _ HPm.out).1; unfold maxLen; omega) (by unfold zos; simp [HZl.out] <;> omega) (by rw [HL2.out]; omega) (by rw [zos_names]; exact HF.out.2))
  rw [HSk.out] at CF
  have HC := Lib.hid (show ∀ (Y : World), Y.ownsRow W.heap.size 36 2 (.slice (some ⟨gl, 0, none⟩) m cl) m (L2.flatMap kcells) → Y.cell? ⟨gl, kk * 2 + 1, none⟩ = some (.string sk) from fun Y hY => by
    have := own_cell hY (lk_get (l := L2) (i := kk) (by rw [HL2.out]; exact hkm)).2
    rw [HN2.out, HSk.out] at this
    exact this)
  obtain ⟨x0, x1, x2, x3⟩ := row4 (K4.out.drew.at 0 rfl)
  go_region_with (first
    | (go_at_call 21; refine (CC.out _ (below_drewN (Below.refl _ _) _)).mono ?_; rintro e X2 ⟨rfl, hb2⟩; have B2 := Lib.hid (show Below Y3.heap.size Y3 X2 from ⟨hb2.os, hb2.tape, hb2.output, hb2.size, hb2.block⟩); have K5 := Lib.hid (K4.out.keep B2.out); obtain ⟨y0, y1, y2, y3⟩ := row4 (K5.out.at 0 rfl); have yn := HC.out _ (K5.out.row 0 rfl); clear hb2)
    | (go_at_call 22; refine (CF.out _ B2.out).mono ?_; rintro e X3 ⟨rfl, hb3⟩; have K6 := Lib.hid (K5.out.keep hb3); clear hb3)
    | (go_at_call 9; refine (CW.out _).mono ?_; rintro e X4 ⟨rfl, hb4⟩; have K7 := Lib.hid (K6.out.keep hb4); clear hb4))
  all_goals
    go_wp2_with fail
    exact bodyPost_ret (v := .bool true) (by simp [results, Tryd.results4, go_sem]) rfl ⟨rfl, K7.out.below⟩
end Go.Proofs.YtdeompnaojiajaaDoor.Px
