/- The law FlattenRefuses of chapter 35, walked: links that are appended as literals. -/
import Derived.Test.YtnffecoohkanhaaDoorYFtS
import Derived.Test.YtnffecoohkanhaaDoorM9
import Derived.Deep.DeepCutAuto
namespace Go.Proofs.YtnffecoohkanhaaDoor.Px
open Go.RowKit
open Go.Maps (Keyed)
open Lk Ld

set_option maxHeartbeats 8000000 in
set_option maxRecDepth 100000 in
theorem refuse_2 (z l t wt wh : Nat) (To : List Nat) (tv : Value) (W : World) (hz : z < 256) (hl : l < 256) (ht : t < 256) (hwt : wt < 256) (hwh : wh < 256) (hT : SlV W tv 1 To.length (To.map u8v)) (hTo : ∀ b ∈ To, b < 256) (hE : EnvAt W) (hu : wt % 4 = 2) :
    Calls Tryd.prog 5 #[.agg #[.int .u8 (z : Int), .int .u8 (l : Int), tv, .int .u8 (t : Int)], .int .u8 (wt : Int), .int .u8 (wh : Int)] W fun e w' => e = .returned (.bool true) ∧ Below W.heap.size W w' := by
  have CM := Lib.hid (fun (Y : World) (hB : Below W.heap.size W Y) => made_any z l t To tv Y hz hl ht (hT.keep hB) hTo (hE.keep hB))
  obtain ⟨n, hn⟩ : ∃ n, 1 + z % 6 = n := ⟨_, rfl⟩
  obtain ⟨m, hm⟩ : ∃ m, l % 13 = m := ⟨_, rfl⟩
  obtain ⟨k, hk⟩ : ∃ k, t % m = k := ⟨_, rfl⟩
  rw [hn, hm, hk] at CM
  obtain ⟨Ls, hLs⟩ : ∃ L, rot k (lkN n m To) = L := ⟨_, rfl⟩
  obtain ⟨Zn, hZn⟩ : ∃ L, zN n t = L := ⟨_, rfl⟩
  rw [hLs, hZn] at CM
  have hn1 : 1 ≤ n := by omega
  have hn6 : n ≤ 6 := by omega
  have hm12 : m ≤ 12 := by omega
  have HLs := Lib.hid hLs
  have HZn := Lib.hid hZn
  have HZl := Lib.hid (show Zn.length = n by rw [← hZn]; exact zN_len)
  have HLl := Lib.hid (show Ls.length = m by rw [← hLs]; exact made_len)
  have HZb := Lib.hid (show ∀ x ∈ Zn, x.length ≤ 100 by rw [← hZn]; exact z_small hn6)
  have HLb := Lib.hid (show ∀ p ∈ Ls, p.1.length ≤ 100 ∧ p.2.length ≤ 100 by rw [← hLs]; exact l_small hn1 hn6 hm12)
  obtain ⟨ta, tc, rfl, htc1, htc2⟩ := hT.slA
  obtain ⟨q, hq⟩ : ∃ q, To.length = q := ⟨_, rfl⟩
  rw [hq] at CM ⊢
  have K0 := Lib.hid ((Kp.start W).allocAt W.heap.size rfl (.cells #[.int .u8 (z : Int), .int .u8 (l : Int), .slice ta q tc, .int .u8 (t : Int)] 56))
  obtain ⟨W1, hW1⟩ : ∃ X, W.alloc (.cells #[.int .u8 (z : Int), .int .u8 (l : Int), .slice ta q tc, .int .u8 (t : Int)] 56) = X := ⟨_, rfl⟩
  rw [hW1] at K0
  obtain ⟨v0, v1, v2, v3⟩ := row4 (K0.out.at 0 rfl)
  obtain ⟨i, hi⟩ : ∃ i, wh % n = i := ⟨_, rfl⟩
  have hin : i < n := by rw [← hi]; exact Nat.mod_lt _ (by omega)
  have hiT : (wh : Int).tmod (n : Int) = (i : Int) := by rw [← hi, Int.tmod_eq_emod_of_nonneg (by omega)]; simp
  have hiI : (wh : Int) % (n : Int) = (i : Int) := by rw [← hi]; simp
  have hn0 : ¬ (n : Int) = 0 := by omega
  have hn00 : ¬ n = 0 := by omega
  have hwi : IntKind.i64.wrap (i : Int) = (i : Int) := IntWalk.i64_in _ (by omega)
  have hww : IntKind.i64.wrap (wh : Int) = (wh : Int) := IntWalk.i64_in _ (by omega)
  clear hn hm hk hT hTo hE hq hLs hZn hi
  go_enter Tryd.func5, Tryd.ntmps5
  go_upto_region 1 with fail
  clear hW1
  go_upto_region 3 with (first | (go_at_call 20; refine (CM.out _ K0.out.below).mono ?_; rintro e X ⟨zv, lv, rfl, hk⟩; obtain ⟨az, cz, rfl⟩ : ∃ a c, zv = .slice a n c := own_slice (hk.row 1 rfl); obtain ⟨al, cl, rfl⟩ : ∃ a c, lv = .slice a m c := own_slice (hk.row 0 rfl); have K1 := Lib.hid ((K0.out.adopt hk).allocAt X.heap.size rfl (.cells #[.slice none 0 0, .slice az n cz, .slice al m cl, .slice none 0 0] 27)); obtain ⟨x0, x1, x2, x3⟩ := row4 (K1.out.at 0 rfl); clear hk))
  obtain ⟨S, hS⟩ : ∃ S, X.heap.size = S := ⟨_, rfl⟩
  obtain ⟨Y2, hY2⟩ : ∃ Y, X.alloc (.cells #[.slice none 0 0, .slice az n cz, .slice al m cl, .slice none 0 0] 27) = Y := ⟨_, rfl⟩
  rw [hY2] at K1 x0 x1 x2 x3 ⊢
  rw [hS] at K1 x0 x1 x2 x3 ⊢
  clear hY2 hS v0 v1 v2 v3
  have K3 := K1
  have CW := Lib.hid works35_any
  obtain ⟨gz, rfl, -, hcz, hczb, hgz⟩ := own_some (K3.out.row 1 rfl) (show 0 < n by omega)
  have hcz : n ≤ cz := hcz
  have hu0 : ¬ (wt : Int) % 4 = 0 := by omega
  have hu1 : ¬ (wt : Int) % 4 = 1 := by omega
  have huI : (wt : Int) % 4 = 2 := by omega
  clear hu
  obtain ⟨il, hlz, hl0, hl1, hl2⟩ := info_partsU infoLn
  have K2 := Lib.hid (K3.out.allocAt Y2.heap.size rfl (.cells #[.string ⟨#[76, 57, 56]⟩, .string ⟨#[76, 57, 57]⟩] 43))
  obtain ⟨y0, y1, y2, y3⟩ := row4 (K2.out.at 1 rfl)
  go_upto_region 12 with (first
    | (at_builtin; refine wpList_append_own_at _ rfl (.tmp 67) (.tmp 69) 24 rfl W.heap.size 43 il (.agg #[.string ⟨#[]⟩, .string ⟨#[]⟩]) 2 32 Tryd.underlying24 hlz hl0 hl1 hl2 rfl (by decide) _ m _ rfl (K2.out.row 0 rfl) ⟨Y2.heap.size, 0, none⟩ 1 1 [.string ⟨#[76, 57, 56]⟩, .string ⟨#[76, 57, 57]⟩] rfl rfl ?c1 ?c2 ?c3 ?c4 ?c5 ?_; (case c1 => exact World.news_of_block (K2.out.at 0 rfl)); (case c2 => simp [Value.oneCell']); (case c3 => unfold maxLen; omega); (case c4 => omega); (case c5 => exact K2.out.below.size); intro v' w2 hown hgrow _ hat; obtain ⟨a5, c5, rfl⟩ : ∃ a c, v' = .slice a (m + 1) c := own_slice hown; have KA := Lib.hid (K2.out.append hown hgrow hat).drop; clear hown hgrow hat; obtain ⟨y0, y1, y2, y3⟩ := row4 (KA.out.at 0 rfl); have y4 := free_at (KA.out.at 0 rfl) 2))
  have K4 := Lib.hid (KA.out.set 0 rfl 2 (.slice a5 (m + 1) c5) rfl)
  have HZb2 := HZb
  rw [show ([.string ⟨#[76, 57, 56]⟩, .string ⟨#[76, 57, 57]⟩] : List Value) = [.string (bs (l99n, l98n).2), .string (bs (l99n, l98n).1)] from rfl, ← lks_snoc] at K4
  have HLb2 := Lib.hid (bigP_snoc (x := (l99n, l98n)) HLb.out ⟨by decide, by decide⟩)
  have HZ2 := Lib.hid (show (Zn).length = n by simp [HZl.out])
  have HL2 := Lib.hid (show (Ls ++ [(l99n, l98n)]).length = (m + 1) by simp [HLl.out])
  have HSrc := Lib.hid (src_own (K4.out.row 1 rfl) (K4.out.row 0 rfl) HZ2.out HL2.out HZb2.out HLb2.out)
  have HLn := Lib.hid (own_hln (K4.out.row 0 rfl))
  have CL := Lib.hid (links35_badn _ _ (Zn) (Ls ++ [(l99n, l98n)]) _ HSrc.out (by rw [HL2.out]; exact HLn.out) (by rw [HL2.out]; omega) (by rw [HZ2.out]; omega) 9 (by rw [← HZn.out, ← HLs.out]; exact congrArg Prod.snd (far_more hn1 hn6 hm12)) (by decide))
  have CS := Lib.hid (fun (Y : World) (hB : Below _ _ Y) => sort35_q _ _ (Zn) (Ls ++ [(l99n, l98n)]) Y (HSrc.out.keep hB) (by rw [HL2.out]; exact HLn.out) (by rw [HL2.out]; omega) (by rw [HZ2.out]; omega))
  obtain ⟨x0, x1, x2, x3⟩ := row4 (K4.out.at 0 rfl)
  go_wp2_with (first
    | (go_at_call 14; refine CL.out.mono ?_; rintro e X5 ⟨rfl, hb5⟩; have B5 := Lib.hid (hb5.alloc (by have := hb5.size; omega) (.cells #[.slice none 0 0, .slice none 0 0, .slice none 0 0, .slice none 0 0] 27)); have K5 := Lib.hid ((K4.out.keep hb5).allocAt X5.heap.size rfl (.cells #[.slice none 0 0, .slice none 0 0, .slice none 0 0, .slice none 0 0] 27)); obtain ⟨x0, x1, x2, x3⟩ := row4 (K5.out.at 1 rfl); clear hb5 CL)
    | (go_at_call 17; refine (CS.out _ B5.out).mono ?_; rintro e X6 ⟨v6, _, _, _, rfl, -, -, -, -, ⟨ra, rc, zo, zp, lo, lp, so, sp, ev⟩, hb6⟩; rw [HZ2.out, HL2.out] at ev; subst ev; have K6 := Lib.hid ((K5.out.keep hb6).allocAt X6.heap.size rfl (.cells #[.slice ra 0 rc, .slice zo n zp, .slice lo (m + 1) lp, .slice so 0 sp] 27)); obtain ⟨x0, x1, x2, x3⟩ := row4 (K6.out.at 2 rfl); obtain ⟨y0, y1, y2, y3⟩ := row4 (K6.out.at 1 rfl); obtain ⟨z0, z1, z2, z3⟩ := row4 (K6.out.at 0 rfl); clear hb6 CS)
    | (go_at_call 9; refine (CW.out _).mono ?_; rintro e X7 ⟨rfl, hb7⟩; have K7 := Lib.hid (K6.out.keep hb7); clear hb7))
  exact bodyPost_ret (v := .bool true) (by simp [results, Tryd.results5, go_sem]) rfl ⟨rfl, K7.out.below⟩
set_option maxHeartbeats 8000000 in
set_option maxRecDepth 100000 in
theorem refuse_3 (z l t wt wh : Nat) (To : List Nat) (tv : Value) (W : World) (hz : z < 256) (hl : l < 256) (ht : t < 256) (hwt : wt < 256) (hwh : wh < 256) (hT : SlV W tv 1 To.length (To.map u8v)) (hTo : ∀ b ∈ To, b < 256) (hE : EnvAt W) (hu : wt % 4 = 3) :
    Calls Tryd.prog 5 #[.agg #[.int .u8 (z : Int), .int .u8 (l : Int), tv, .int .u8 (t : Int)], .int .u8 (wt : Int), .int .u8 (wh : Int)] W fun e w' => e = .returned (.bool true) ∧ Below W.heap.size W w' := by
  have CM := Lib.hid (fun (Y : World) (hB : Below W.heap.size W Y) => made_any z l t To tv Y hz hl ht (hT.keep hB) hTo (hE.keep hB))
  obtain ⟨n, hn⟩ : ∃ n, 1 + z % 6 = n := ⟨_, rfl⟩
  obtain ⟨m, hm⟩ : ∃ m, l % 13 = m := ⟨_, rfl⟩
  obtain ⟨k, hk⟩ : ∃ k, t % m = k := ⟨_, rfl⟩
  rw [hn, hm, hk] at CM
  obtain ⟨Ls, hLs⟩ : ∃ L, rot k (lkN n m To) = L := ⟨_, rfl⟩
  obtain ⟨Zn, hZn⟩ : ∃ L, zN n t = L := ⟨_, rfl⟩
  rw [hLs, hZn] at CM
  have hn1 : 1 ≤ n := by omega
  have hn6 : n ≤ 6 := by omega
  have hm12 : m ≤ 12 := by omega
  have HLs := Lib.hid hLs
  have HZn := Lib.hid hZn
  have HZl := Lib.hid (show Zn.length = n by rw [← hZn]; exact zN_len)
  have HLl := Lib.hid (show Ls.length = m by rw [← hLs]; exact made_len)
  have HZb := Lib.hid (show ∀ x ∈ Zn, x.length ≤ 100 by rw [← hZn]; exact z_small hn6)
  have HLb := Lib.hid (show ∀ p ∈ Ls, p.1.length ≤ 100 ∧ p.2.length ≤ 100 by rw [← hLs]; exact l_small hn1 hn6 hm12)
  obtain ⟨ta, tc, rfl, htc1, htc2⟩ := hT.slA
  obtain ⟨q, hq⟩ : ∃ q, To.length = q := ⟨_, rfl⟩
  rw [hq] at CM ⊢
  have K0 := Lib.hid ((Kp.start W).allocAt W.heap.size rfl (.cells #[.int .u8 (z : Int), .int .u8 (l : Int), .slice ta q tc, .int .u8 (t : Int)] 56))
  obtain ⟨W1, hW1⟩ : ∃ X, W.alloc (.cells #[.int .u8 (z : Int), .int .u8 (l : Int), .slice ta q tc, .int .u8 (t : Int)] 56) = X := ⟨_, rfl⟩
  rw [hW1] at K0
  obtain ⟨v0, v1, v2, v3⟩ := row4 (K0.out.at 0 rfl)
  obtain ⟨i, hi⟩ : ∃ i, wh % n = i := ⟨_, rfl⟩
  have hin : i < n := by rw [← hi]; exact Nat.mod_lt _ (by omega)
  have hiT : (wh : Int).tmod (n : Int) = (i : Int) := by rw [← hi, Int.tmod_eq_emod_of_nonneg (by omega)]; simp
  have hiI : (wh : Int) % (n : Int) = (i : Int) := by rw [← hi]; simp
  have hn0 : ¬ (n : Int) = 0 := by omega
  have hn00 : ¬ n = 0 := by omega
  have hwi : IntKind.i64.wrap (i : Int) = (i : Int) := IntWalk.i64_in _ (by omega)
  have hww : IntKind.i64.wrap (wh : Int) = (wh : Int) := IntWalk.i64_in _ (by omega)
  clear hn hm hk hT hTo hE hq hLs hZn hi
  go_enter Tryd.func5, Tryd.ntmps5
  go_upto_region 1 with fail
  clear hW1
  go_upto_region 3 with (first | (go_at_call 20; refine (CM.out _ K0.out.below).mono ?_; rintro e X ⟨zv, lv, rfl, hk⟩; obtain ⟨az, cz, rfl⟩ : ∃ a c, zv = .slice a n c := own_slice (hk.row 1 rfl); obtain ⟨al, cl, rfl⟩ : ∃ a c, lv = .slice a m c := own_slice (hk.row 0 rfl); have K1 := Lib.hid ((K0.out.adopt hk).allocAt X.heap.size rfl (.cells #[.slice none 0 0, .slice az n cz, .slice al m cl, .slice none 0 0] 27)); obtain ⟨x0, x1, x2, x3⟩ := row4 (K1.out.at 0 rfl); clear hk))
  obtain ⟨S, hS⟩ : ∃ S, X.heap.size = S := ⟨_, rfl⟩
  obtain ⟨Y2, hY2⟩ : ∃ Y, X.alloc (.cells #[.slice none 0 0, .slice az n cz, .slice al m cl, .slice none 0 0] 27) = Y := ⟨_, rfl⟩
  rw [hY2] at K1 x0 x1 x2 x3 ⊢
  rw [hS] at K1 x0 x1 x2 x3 ⊢
  clear hY2 hS v0 v1 v2 v3
  have K3 := K1
  have CW := Lib.hid works35_any
  obtain ⟨gz, rfl, -, hcz, hczb, hgz⟩ := own_some (K3.out.row 1 rfl) (show 0 < n by omega)
  have hcz : n ≤ cz := hcz
  have hu0 : ¬ (wt : Int) % 4 = 0 := by omega
  have hu1 : ¬ (wt : Int) % 4 = 1 := by omega
  have hu2 : ¬ (wt : Int) % 4 = 2 := by omega
  clear hu
  obtain ⟨il, hlz, hl0, hl1, hl2⟩ := info_partsU infoLn
  have K2 := Lib.hid (K3.out.allocAt Y2.heap.size rfl (.cells #[.string ⟨#[76, 57, 56]⟩, .string ⟨#[76, 57, 57]⟩, .string ⟨#[76, 57, 57]⟩, .string ⟨#[76, 57, 56]⟩] 43))
  obtain ⟨y0, y1, y2, y3⟩ := row4 (K2.out.at 1 rfl)
  go_upto_region 5 with (first
    | (at_builtin; refine wpList_append_own_at _ rfl (.tmp 17) (.tmp 20) 24 rfl W.heap.size 43 il (.agg #[.string ⟨#[]⟩, .string ⟨#[]⟩]) 2 32 Tryd.underlying24 hlz hl0 hl1 hl2 rfl (by decide) _ m _ rfl (K2.out.row 0 rfl) ⟨Y2.heap.size, 0, none⟩ 2 2 [.string ⟨#[76, 57, 56]⟩, .string ⟨#[76, 57, 57]⟩, .string ⟨#[76, 57, 57]⟩, .string ⟨#[76, 57, 56]⟩] rfl rfl ?c1 ?c2 ?c3 ?c4 ?c5 ?_; (case c1 => exact World.news_of_block (K2.out.at 0 rfl)); (case c2 => simp [Value.oneCell']); (case c3 => unfold maxLen; omega); (case c4 => omega); (case c5 => exact K2.out.below.size); intro v' w2 hown hgrow _ hat; obtain ⟨a5, c5, rfl⟩ : ∃ a c, v' = .slice a (m + 2) c := own_slice hown; have KA := Lib.hid (K2.out.append hown hgrow hat).drop; clear hown hgrow hat; obtain ⟨y0, y1, y2, y3⟩ := row4 (KA.out.at 0 rfl); have y4 := free_at (KA.out.at 0 rfl) 2))
  have K4 := Lib.hid (KA.out.set 0 rfl 2 (.slice a5 (m + 2) c5) rfl)
  have HZb2 := HZb
  rw [show Ls.flatMap kcells ++ ([.string ⟨#[76, 57, 56]⟩, .string ⟨#[76, 57, 57]⟩, .string ⟨#[76, 57, 57]⟩, .string ⟨#[76, 57, 56]⟩] : List Value) = (Ls ++ [(l99n, l98n), (l98n, l99n)]).flatMap kcells from by rw [List.flatMap_append]; rfl] at K4
  have HLb2 := Lib.hid (show ∀ p ∈ Ls ++ [(l99n, l98n), (l98n, l99n)], p.1.length ≤ 100 ∧ p.2.length ≤ 100 from fun p hp => by
    rcases List.mem_append.1 hp with hp | hp
    · exact HLb.out p hp
    · simp only [List.mem_cons, List.not_mem_nil, or_false] at hp
      rcases hp with rfl | rfl <;> exact ⟨by decide, by decide⟩)
  have HZ2 := Lib.hid (show (Zn).length = n by simp [HZl.out])
  have HL2 := Lib.hid (show (Ls ++ [(l99n, l98n), (l98n, l99n)]).length = (m + 2) by simp [HLl.out])
  have HSrc := Lib.hid (src_own (K4.out.row 1 rfl) (K4.out.row 0 rfl) HZ2.out HL2.out HZb2.out HLb2.out)
  have HLn := Lib.hid (own_hln (K4.out.row 0 rfl))
  have CL := Lib.hid (links35_badn _ _ (Zn) (Ls ++ [(l99n, l98n), (l98n, l99n)]) _ HSrc.out (by rw [HL2.out]; exact HLn.out) (by rw [HL2.out]; omega) (by rw [HZ2.out]; omega) 11 (by rw [← HZn.out, ← HLs.out]; exact congrArg Prod.snd (circle_more hn1 hn6 hm12)) (by decide))
  have CS := Lib.hid (fun (Y : World) (hB : Below _ _ Y) => sort35_q _ _ (Zn) (Ls ++ [(l99n, l98n), (l98n, l99n)]) Y (HSrc.out.keep hB) (by rw [HL2.out]; exact HLn.out) (by rw [HL2.out]; omega) (by rw [HZ2.out]; omega))
  obtain ⟨x0, x1, x2, x3⟩ := row4 (K4.out.at 0 rfl)
  go_wp2_with (first
    | (go_at_call 14; refine CL.out.mono ?_; rintro e X5 ⟨rfl, hb5⟩; have B5 := Lib.hid (hb5.alloc (by have := hb5.size; omega) (.cells #[.slice none 0 0, .slice none 0 0, .slice none 0 0, .slice none 0 0] 27)); have K5 := Lib.hid ((K4.out.keep hb5).allocAt X5.heap.size rfl (.cells #[.slice none 0 0, .slice none 0 0, .slice none 0 0, .slice none 0 0] 27)); obtain ⟨x0, x1, x2, x3⟩ := row4 (K5.out.at 1 rfl); clear hb5 CL)
    | (go_at_call 17; refine (CS.out _ B5.out).mono ?_; rintro e X6 ⟨v6, _, _, _, rfl, -, -, -, -, ⟨ra, rc, zo, zp, lo, lp, so, sp, ev⟩, hb6⟩; rw [HZ2.out, HL2.out] at ev; subst ev; have K6 := Lib.hid ((K5.out.keep hb6).allocAt X6.heap.size rfl (.cells #[.slice ra 0 rc, .slice zo n zp, .slice lo (m + 2) lp, .slice so 0 sp] 27)); obtain ⟨x0, x1, x2, x3⟩ := row4 (K6.out.at 2 rfl); obtain ⟨y0, y1, y2, y3⟩ := row4 (K6.out.at 1 rfl); obtain ⟨z0, z1, z2, z3⟩ := row4 (K6.out.at 0 rfl); clear hb6 CS)
    | (go_at_call 9; refine (CW.out _).mono ?_; rintro e X7 ⟨rfl, hb7⟩; have K7 := Lib.hid (K6.out.keep hb7); clear hb7))
  exact bodyPost_ret (v := .bool true) (by simp [results, Tryd.results5, go_sem]) rfl ⟨rfl, K7.out.below⟩
end Go.Proofs.YtnffecoohkanhaaDoor.Px
