/- The law LinksCircle of chapter 15, walked: who goes in a circle. -/
import Derived.Test.YtdeompnaojiajaaDoorLgA
import Derived.Deep.CutBlock
import Derived.Deep.OwnRows
namespace Go.Proofs.YtdeompnaojiajaaDoor.Px
open Go.RowKit
open Go.Maps (Keyed)
open Lk Ld

/-- what is reached of the first links -/
def rrL (m i : Nat) (R : Nat → Bool) : List Value := (List.range m).map fun j => .bool (decide (j < i) && R j)
theorem rr_zero (m : Nat) (R : Nat → Bool) : (madeCells #[.bool false] m).toList.take (m * 1) = rrL m 0 R := by
  unfold madeCells rrL
  apply List.ext_getElem?
  intro j
  rw [List.getElem?_take, List.getElem?_map]
  by_cases hj : j < m
  · rw [if_pos (by omega), List.getElem?_range hj]
    simp [hj, Nat.mod_one]
  · rw [if_neg (by omega), List.getElem?_eq_none (by rw [List.length_range]; omega)]
    rfl
theorem rr_set {m i : Nat} {R : Nat → Bool} (hi : i < m) (hr : R i = true) : (rrL m i R).set i (.bool true) = rrL m (i + 1) R := by
  unfold rrL
  apply List.ext_getElem?
  intro j
  by_cases hji : j = i
  · subst hji
    rw [List.getElem?_set_self (by rw [List.length_map, List.length_range]; exact hi), List.getElem?_map, List.getElem?_range hi]
    simp [hr]
  · rw [List.getElem?_set_ne (fun e => hji e.symm), List.getElem?_map, List.getElem?_map]
    by_cases hj : j < m
    · rw [List.getElem?_range hj]
      have e : decide (j < i) = decide (j < i + 1) := by
        by_cases h1 : j < i
        · rw [decide_eq_true h1, decide_eq_true (by omega)]
        · rw [decide_eq_false h1, decide_eq_false (by omega)]
      simp only [Option.map_some, e]
    · rw [List.getElem?_eq_none (by rw [List.length_range]; omega)]
      rfl
theorem rr_skip {m i : Nat} {R : Nat → Bool} (hr : R i = false) : rrL m i R = rrL m (i + 1) R := by
  unfold rrL
  apply List.map_congr_left
  intro a _
  by_cases h : a = i
  · subst h
    rw [hr]
    simp
  · have e : decide (a < i) = decide (a < i + 1) := by
      by_cases h1 : a < i
      · rw [decide_eq_true h1, decide_eq_true (by omega)]
      · rw [decide_eq_false h1, decide_eq_false (by omega)]
    rw [e]
theorem rr_all (m : Nat) (R : Nat → Bool) : rrL m m R = (List.range m).map fun j => .bool (R j) := by
  unfold rrL
  apply List.map_congr_left
  intro a ha
  have h := List.mem_range.1 ha
  rw [decide_eq_true h, Bool.true_and]
theorem rr_get {m i j : Nat} {R : Nat → Bool} (hj : j < m) : (rrL m i R)[j]? = some (.bool (decide (j < i) && R j)) := by
  unfold rrL
  rw [List.getElem?_map, List.getElem?_range hj]
  rfl
theorem first_true (R : Nat → Bool) : ∀ p, R p = true → ∃ f, f ≤ p ∧ R f = true ∧ ∀ j, j < f → R j = false := by
  intro p
  induction p using Nat.strongRecOn with
  | _ p ih =>
    intro hp
    by_cases h : ∃ j, j < p ∧ R j = true
    · obtain ⟨j, hj, hr⟩ := h
      obtain ⟨f, h1, h2, h3⟩ := ih j hj hr
      exact ⟨f, by omega, h2, h3⟩
    · refine ⟨p, Nat.le_refl p, hp, fun j hj => ?_⟩
      by_cases hr : R j = true
      · exact absurd ⟨j, hj, hr⟩ h
      · simpa using hr
theorem own_lt {X : World} {B sz n N c g : Nat} {e : TypeId} {xs : List Value} (h : X.ownsRow B e sz (.slice (some ⟨g, 0, none⟩) n c) N xs) (h0 : 0 < N) : g < X.heap.size := by
  obtain ⟨g', e, _, _, _, hl⟩ := own_some h h0
  cases e
  exact hl
theorem infoBool : (Tryd.prog.info? 4).map (fun i => (i.zero, i.size, i.bytes)) = some (some (.bool false), 1, 1) := by kernel_rfl
set_option maxHeartbeats 8000000 in
set_option maxRecDepth 100000 in
theorem circle_0 (z l t wh : Nat) (To : List Nat) (tv : Value) (W : World) (hz : z < 256) (hl : l < 256) (ht : t < 256) (_ : wh < 256) (hT : SlV W tv 1 To.length (To.map u8v)) (hTo : ∀ b ∈ To, b < 256) (hE : EnvAt W) (hm0 : l % 13 = 0) :
    Calls Tryd.prog 6 #[.agg #[.int .u8 (z : Int), .int .u8 (l : Int), tv, .int .u8 (t : Int)], .int .u8 (wh : Int)] W fun e w' => e = .returned (.bool true) ∧ Below W.heap.size W w' := by
  have CM := Lib.hid (fun (Y : World) (hB : Below W.heap.size W Y) => made_any z l t To tv Y hz hl ht (hT.keep hB) hTo (hE.keep hB))
  obtain ⟨n, hn⟩ : ∃ n, 1 + z % 6 = n := ⟨_, rfl⟩
  obtain ⟨m, hm⟩ : ∃ m, l % 13 = m := ⟨_, rfl⟩
  obtain ⟨k, hk⟩ : ∃ k, t % m = k := ⟨_, rfl⟩
  rw [hn, hm, hk] at CM
  rw [hm] at hm0
  have HM0 := Lib.hid hm0
  clear hm0
  obtain ⟨Ls, hLs⟩ : ∃ L, rot k (lkN n m To) = L := ⟨_, rfl⟩
  obtain ⟨Zn, hZn⟩ : ∃ L, zN n t = L := ⟨_, rfl⟩
  rw [hLs, hZn] at CM
  have hn1 : 1 ≤ n := by omega
  have hn6 : n ≤ 6 := by omega
  have hm12 : m ≤ 12 := by omega
  have HLs := Lib.hid hLs
  have HZn := Lib.hid hZn
  have HZl := Lib.hid (show Zn.length = n by rw [← hZn]; exact zN_len)
  have HLl := Lib.hid (show Ls.length = m by rw [← hLs]; exact made_len)
  have HZb := Lib.hid (show ∀ x ∈ Zn, x.length ≤ 100 by rw [← hZn]; exact z_small hn6)
  have HLb := Lib.hid (show ∀ p ∈ Ls, p.1.length ≤ 100 ∧ p.2.length ≤ 100 by rw [← hLs]; exact l_small hn1 hn6 hm12)
  obtain ⟨ta, tc, rfl, htc1, htc2⟩ := hT.slA
  obtain ⟨q, hq⟩ : ∃ q, To.length = q := ⟨_, rfl⟩
  rw [hq] at CM ⊢
  have K0 := Lib.hid ((Kp.start W).allocAt W.heap.size rfl (.cells #[.int .u8 (z : Int), .int .u8 (l : Int), .slice ta q tc, .int .u8 (t : Int)] 50))
  obtain ⟨W1, hW1⟩ : ∃ X, W.alloc (.cells #[.int .u8 (z : Int), .int .u8 (l : Int), .slice ta q tc, .int .u8 (t : Int)] 50) = X := ⟨_, rfl⟩
  rw [hW1] at K0
  obtain ⟨v0, v1, v2, v3⟩ := row4 (K0.out.at 0 rfl)
  have HFi := Lib.hid (show checkL Zn Ls zoneOk = ((0, 0), 0) by rw [← hZn, ← hLs]; exact made_fine hn1 hn6 hm12)
  have CW := Lib.hid works_any
  clear hn hm hk hT hTo hE hq hLs hZn
  go_enter Tryd.func6, Tryd.ntmps6
  go_upto_region 1 with fail
  clear hW1
  go_upto_region 2 with (first | (go_at_call 20; refine (CM.out _ K0.out.below).mono ?_; rintro e X ⟨zv, lv, rfl, hk⟩; obtain ⟨az, cz, rfl⟩ : ∃ a c, zv = .slice a n c := own_slice (hk.row 1 rfl); obtain ⟨al, cl, rfl⟩ : ∃ a c, lv = .slice a m c := own_slice (hk.row 0 rfl); have K1 := Lib.hid ((K0.out.adopt hk).allocAt X.heap.size rfl (.cells #[.slice none 0 0, .slice az n cz, .slice al m cl, .slice none 0 0] 27)); obtain ⟨x0, x1, x2, x3⟩ := row4 (K1.out.at 0 rfl); clear hk))
  obtain ⟨S, hS⟩ : ∃ S, X.heap.size = S := ⟨_, rfl⟩
  obtain ⟨Y1, hY1⟩ : ∃ Y, X.alloc (.cells #[.slice none 0 0, .slice az n cz, .slice al m cl, .slice none 0 0] 27) = Y := ⟨_, rfl⟩
  rw [hY1] at K1 x0 x1 x2 x3 ⊢
  rw [hS] at K1 x0 x1 x2 x3 ⊢
  clear hY1 hS v0 v1 v2 v3
  have hm0 := HM0.out
  subst hm0
  have HSrc := Lib.hid (src_own (K1.out.row 1 rfl) (K1.out.row 0 rfl) HZl.out HLl.out HZb.out HLb.out)
  have CC := Lib.hid (checks_ok (.slice none 0 0) _ _ (.slice none 0 0) (zos Zn) Ls 0 0 0 _ HSrc.out (by unfold zos; simp [HZl.out] <;> omega) (by simp [HLl.out] <;> omega) (by rw [zos_names]; exact HFi.out))
  go_wp2_with (first | (go_at_call 21; refine CC.out.mono ?_; rintro e X2 ⟨rfl, hb2⟩; have K5 := Lib.hid (K1.out.keep hb2); clear hb2) | (go_at_call 9; refine (CW.out _).mono ?_; rintro e X3 ⟨rfl, hb3⟩; have K6 := Lib.hid (K5.out.keep hb3); clear hb3))
  exact bodyPost_ret (v := .bool true) (by simp [results, Tryd.results6, go_sem]) rfl ⟨rfl, K6.out.below⟩
set_option maxHeartbeats 8000000 in
set_option maxRecDepth 100000 in
theorem circle_1 (z l t wh : Nat) (To : List Nat) (tv : Value) (W : World) (hz : z < 256) (hl : l < 256) (ht : t < 256) (hwh : wh < 256) (hT : SlV W tv 1 To.length (To.map u8v)) (hTo : ∀ b ∈ To, b < 256) (hE : EnvAt W) (hm0 : ¬ l % 13 = 0) :
    Calls Tryd.prog 6 #[.agg #[.int .u8 (z : Int), .int .u8 (l : Int), tv, .int .u8 (t : Int)], .int .u8 (wh : Int)] W fun e w' => e = .returned (.bool true) ∧ Below W.heap.size W w' := by
  have CM := Lib.hid (fun (Y : World) (hB : Below W.heap.size W Y) => made_any z l t To tv Y hz hl ht (hT.keep hB) hTo (hE.keep hB))
  obtain ⟨n, hn⟩ : ∃ n, 1 + z % 6 = n := ⟨_, rfl⟩
  obtain ⟨m, hm⟩ : ∃ m, l % 13 = m := ⟨_, rfl⟩
  obtain ⟨k, hk⟩ : ∃ k, t % m = k := ⟨_, rfl⟩
  rw [hn, hm, hk] at CM
  rw [hm] at hm0
  obtain ⟨Ls, hLs⟩ : ∃ L, rot k (lkN n m To) = L := ⟨_, rfl⟩
  obtain ⟨Zn, hZn⟩ : ∃ L, zN n t = L := ⟨_, rfl⟩
  rw [hLs, hZn] at CM
  have hn1 : 1 ≤ n := by omega
  have hn6 : n ≤ 6 := by omega
  have hm12 : m ≤ 12 := by omega
  have HLs := Lib.hid hLs
  have HZn := Lib.hid hZn
  have HZl := Lib.hid (show Zn.length = n by rw [← hZn]; exact zN_len)
  have HLl := Lib.hid (show Ls.length = m by rw [← hLs]; exact made_len)
  have HZb := Lib.hid (show ∀ x ∈ Zn, x.length ≤ 100 by rw [← hZn]; exact z_small hn6)
  have HLb := Lib.hid (show ∀ p ∈ Ls, p.1.length ≤ 100 ∧ p.2.length ≤ 100 by rw [← hLs]; exact l_small hn1 hn6 hm12)
  obtain ⟨ta, tc, rfl, htc1, htc2⟩ := hT.slA
  obtain ⟨q, hq⟩ : ∃ q, To.length = q := ⟨_, rfl⟩
  rw [hq] at CM ⊢
  have K0 := Lib.hid ((Kp.start W).allocAt W.heap.size rfl (.cells #[.int .u8 (z : Int), .int .u8 (l : Int), .slice ta q tc, .int .u8 (t : Int)] 50))
  obtain ⟨W1, hW1⟩ : ∃ X, W.alloc (.cells #[.int .u8 (z : Int), .int .u8 (l : Int), .slice ta q tc, .int .u8 (t : Int)] 50) = X := ⟨_, rfl⟩
  rw [hW1] at K0
  obtain ⟨v0, v1, v2, v3⟩ := row4 (K0.out.at 0 rfl)
  have hm1 : 0 < m := by omega
  obtain ⟨pk, hpk⟩ : ∃ i, wh % m = i := ⟨_, rfl⟩
  have hpm : pk < m := by rw [← hpk]; exact Nat.mod_lt _ hm1
  have hpT : (wh : Int).tmod (m : Int) = (pk : Int) := by rw [← hpk, Int.tmod_eq_emod_of_nonneg (by omega)]; simp
  have hpI : (wh : Int) % (m : Int) = (pk : Int) := by rw [← hpk]; simp
  have hm00 : ¬ m = 0 := by omega
  have hmI0 : ¬ (m : Int) = 0 := by omega
  have hww : IntKind.i64.wrap (wh : Int) = (wh : Int) := IntWalk.i64_in _ (by omega)
  have hwp : IntKind.i64.wrap (pk : Int) = (pk : Int) := IntWalk.i64_in _ (by omega)
  have hwm1 : IntKind.i64.wrap ((m : Int) + 1) = (m : Int) + 1 := IntWalk.i64_in _ (by omega)
  obtain ⟨nk, hnk⟩ : ∃ x, (Ls.getD pk ([], [])).1 = x := ⟨_, rfl⟩
  have HPl := Lib.hid (show pk < Ls.length by rw [HLl.out]; exact hpm)
  have HNk := Lib.hid hnk
  have hnkm : nk ∈ nm Ls := by rw [← hnk]; exact List.mem_map.2 ⟨_, getP_mem HPl.out, rfl⟩
  obtain ⟨R, hR⟩ : ∃ R : Nat → Bool, (fun j => reachG Ls nk (m + 1) (Ls.getD j ([], [])).1) = R := ⟨_, rfl⟩
  have HR := Lib.hid (show ∀ j, R j = reachG Ls nk (m + 1) (Ls.getD j ([], [])).1 by rw [← hR]; exact fun j => rfl)
  have HRk := Lib.hid (show R pk = true by rw [HR.out, hnk]; exact reach_self hnkm m)
  have HNd := Lib.hid (show (nm Ls).Nodup by rw [← hLs]; exact made_nodup hm12)
  have HNa := Lib.hid (show (nm Ls)[pk]? = some nk by
    unfold nm
    rw [List.getElem?_map, ← hnk, List.getD, List.getElem?_eq_getElem HPl.out]
    rfl)
  have HTu := Lib.hid (fun (L' : List (List UInt8 × List UInt8)) (nl : List UInt8) (he : L' = Ls.set pk (nk, nl)) (hb : reachG Ls nk (m + 1) nl = true) => (⟨hLs, hpm, hnk, he, hb⟩ : Turned n m k To Ls L' pk nk nl))
  have CW := Lib.hid works_any
  have hent : ∀ args w, (callFunc 24 args).run Tryd.prog w = .ok (.enter 24 args) w := enters_of Tryd.func24 (by kernel_rfl) rfl
  have hmk : ∀ w : World, (Instr.makeSlice 55 (.int .i64 (m : Int)) (.int .i64 (m : Int))).run Tryd.prog w = .ok (.slice (some ⟨w.heap.size, 0, none⟩) m m) (w.alloc (.cells (madeCells #[.bool false] m) 4)) := fun w => run_make_row' 55 4 (.bool false) 1 Tryd.underlying55 infoBool rfl _ _ m (by omega) (by omega) w
  clear hn hm hk hT hTo hE hq hLs hZn hpk hnk hR hnkm hm0
  go_enter Tryd.func6, Tryd.ntmps6
  go_upto_region 1 with fail
  clear hW1
  go_upto_region 2 with (first | (go_at_call 20; refine (CM.out _ K0.out.below).mono ?_; rintro e X ⟨zv, lv, rfl, hk⟩; obtain ⟨az, cz, rfl⟩ : ∃ a c, zv = .slice a n c := own_slice (hk.row 1 rfl); obtain ⟨al, cl, rfl⟩ : ∃ a c, lv = .slice a m c := own_slice (hk.row 0 rfl); have K1 := Lib.hid ((K0.out.adopt hk).allocAt X.heap.size rfl (.cells #[.slice none 0 0, .slice az n cz, .slice al m cl, .slice none 0 0] 27)); obtain ⟨x0, x1, x2, x3⟩ := row4 (K1.out.at 0 rfl); clear hk))
  obtain ⟨S, hS⟩ : ∃ S, X.heap.size = S := ⟨_, rfl⟩
  obtain ⟨Y1, hY1⟩ : ∃ Y, X.alloc (.cells #[.slice none 0 0, .slice az n cz, .slice al m cl, .slice none 0 0] 27) = Y := ⟨_, rfl⟩
  rw [hY1] at K1 x0 x1 x2 x3 ⊢
  rw [hS] at K1 x0 x1 x2 x3 ⊢
  clear hY1 hS v0 v1 v2 v3
  obtain ⟨gl, rfl, -, hcl4, hclb, hgl⟩ := own_some (K1.out.row 0 rfl) hm1
  obtain ⟨gr, hgr⟩ : ∃ b, Y1.heap.size = b := ⟨_, rfl⟩
  have KM := Lib.hid (show Kp [(S, .cells #[.slice none 0 0, .slice az n cz, .slice (some ⟨gl, 0, none⟩) m cl, .slice none 0 0] 27 (0, 0)), (W.heap.size, .cells #[.int .u8 (z : Int), .int .u8 (l : Int), .slice ta q tc, .int .u8 (t : Int)] 50 (0, 0))] [⟨.slice (some ⟨gr, 0, none⟩) m m, 4, 1, m, rrL m 0 R⟩, ⟨.slice (some ⟨gl, 0, none⟩) m cl, 36, 2, m, Ls.flatMap kcells⟩, ⟨.slice az n cz, 33, 2, n, (zos Zn).flatMap zcells⟩] W _ from by
    have h := (K1.out.allocAt gr hgr (.cells (madeCells #[.bool false] m) 4)).own_block 1 m m (Nat.le_refl m) (by unfold maxLen; omega) (by rw [size_madeCells, Nat.mul_one])
    rw [rr_zero m R] at h
    exact h)
  go_upto_region 6 with fail
  obtain ⟨Y2, hY2⟩ : ∃ Y, Y1.alloc (.cells (madeCells #[.bool false] m) 4) = Y := ⟨_, rfl⟩
  rw [hY2] at KM ⊢
  clear hY2 hgr hmk x0 x1 x2 x3 K1
  obtain ⟨x0, x1, x2, x3⟩ := row4 (KM.out.at 0 rfl)
  go_wp2_with fail
  clear x0 x1 x2 x3
  go_loopw [8, 9, 10, 11, 12, 43] (fun i8 _ _ _ _ i43 wr => ∃ i pl : Nat, i ≤ m ∧ i8 = .int .i64 (pl : Int) ∧ i43 = .int .i64 (i : Int) ∧ pl < m ∧ R pl = true ∧ Kp [(S, .cells #[.slice none 0 0, .slice az n cz, .slice (some ⟨gl, 0, none⟩) m cl, .slice none 0 0] 27 (0, 0)), (W.heap.size, .cells #[.int .u8 (z : Int), .int .u8 (l : Int), .slice ta q tc, .int .u8 (t : Int)] 50 (0, 0))] [⟨.slice (some ⟨gr, 0, none⟩) m m, 4, 1, m, rrL m i R⟩, ⟨.slice (some ⟨gl, 0, none⟩) m cl, 36, 2, m, Ls.flatMap kcells⟩, ⟨.slice az n cz, 33, 2, n, (zos Zn).flatMap zcells⟩] W wr) (fun _ _ _ _ _ i43 _ => m - (intOf i43).toNat)
  case atStart => exact ⟨0, pk, by omega, rfl, rfl, hpm, HRk.out, KM.out⟩
  case round =>
    obtain ⟨i, pl, hi', rfl, rfl, hpl, hrpl, hk⟩ := hrel
    have HK := Lib.hid hk
    have HRp := Lib.hid hrpl
    clear hk hrpl KM
    by_cases hlt : i < m
    · go_upto_block 1 with fail
      go_cut [8, 9, 10, 11, 12] from 45 to 76 (fun v8 _ _ _ _ wx => ∃ pl' : Nat, v8 = .int .i64 (pl' : Int) ∧ pl' < m ∧ R pl' = true ∧ Kp [(S, .cells #[.slice none 0 0, .slice az n cz, .slice (some ⟨gl, 0, none⟩) m cl, .slice none 0 0] 27 (0, 0)), (W.heap.size, .cells #[.int .u8 (z : Int), .int .u8 (l : Int), .slice ta q tc, .int .u8 (t : Int)] 50 (0, 0))] [⟨.slice (some ⟨gr, 0, none⟩) m m, 4, 1, m, rrL m (i + 1) R⟩, ⟨.slice (some ⟨gl, 0, none⟩) m cl, 36, 2, m, Ls.flatMap kcells⟩, ⟨.slice az n cz, 33, 2, n, (zos Zn).flatMap zcells⟩] W wx)
      case first =>
        have hil : i < Ls.length := by rw [HLl.out]; exact hlt
        have c0 := own_cell (HK.out.row 1 rfl) (lk_get hil).1
        have c1 := own_cell (HK.out.row 1 rfl) (lk_get hil).2
        obtain ⟨sn, hsn⟩ : ∃ s, bs (Ls.getD i ([], [])).1 = s := ⟨_, rfl⟩
        obtain ⟨st, hst⟩ : ∃ s, bs (Ls.getD i ([], [])).2 = s := ⟨_, rfl⟩
        rw [hst] at c0
        rw [hsn] at c1
        have HSn := Lib.hid hsn
        have hgw := own_lt (HK.out.row 1 rfl) hm1
        have KE := Lib.hid ((HK.out.allocAt wr.heap.size rfl (.cells #[.string st, .string sn] 36)).allocAt (wr.heap.size + 1) (by simp) (.cells #[.string sn] 9))
        obtain ⟨x0, x1, x2, x3⟩ := row4 (HK.out.at 0 rfl)
        have hsw := HK.out.lt 0 rfl
        clear hsn hst
        go_upto_region 11 with fail
        obtain ⟨bx, hbx⟩ : ∃ b, wr.heap.size = b := ⟨_, rfl⟩
        obtain ⟨Y3, hY3⟩ : ∃ Y, (wr.alloc (.cells #[.string st, .string sn] 36)).alloc (.cells #[.string sn] 9) = Y := ⟨_, rfl⟩
        rw [hY3] at KE ⊢
        rw [hbx] at KE ⊢
        obtain ⟨bn, hbn⟩ : ∃ b, bx + 1 = b := ⟨_, rfl⟩
        rw [hbn] at KE ⊢
        clear hY3 hbx hbn c0 c1 x0 x1 x2 x3 hsw hgw
        have KF := Lib.hid (KE.out.pick (List.Sublist.cons_cons _ (List.Sublist.cons _ (List.Sublist.refl _))))
        obtain ⟨x0, x1, x2, x3⟩ := row4 (KF.out.at 1 rfl)
        clear KE HK
        go_wp2_with fail
        go_loopw [8, 12, 54] (fun i8 _ i54 wx => ∃ (s : Nat) (c : List UInt8), s ≤ m + 1 ∧ i8 = .int .i64 (pl : Int) ∧ i54 = .int .i64 (s : Int) ∧ reachG Ls nk (m + 1 - s) c = R i ∧ Kp [(bn, .cells #[.string (bs c)] 9 (0, 0)), (S, .cells #[.slice none 0 0, .slice az n cz, .slice (some ⟨gl, 0, none⟩) m cl, .slice none 0 0] 27 (0, 0)), (W.heap.size, .cells #[.int .u8 (z : Int), .int .u8 (l : Int), .slice ta q tc, .int .u8 (t : Int)] 50 (0, 0))] [⟨.slice (some ⟨gr, 0, none⟩) m m, 4, 1, m, rrL m i R⟩, ⟨.slice (some ⟨gl, 0, none⟩) m cl, 36, 2, m, Ls.flatMap kcells⟩, ⟨.slice az n cz, 33, 2, n, (zos Zn).flatMap zcells⟩] W wx) (fun _ _ i54 _ => m + 1 - (intOf i54).toNat)
        case atStart => exact ⟨0, (Ls.getD i ([], [])).1, by omega, rfl, rfl, (HR.out i).symm, by rw [HSn.out]; exact KF.out⟩
        case round =>
          obtain ⟨s, c, hs, rfl, rfl, hrc, hk⟩ := hrel
          obtain ⟨sc, hsc⟩ : ∃ x, bs c = x := ⟨_, rfl⟩
          rw [hsc] at hk
          have HK2 := Lib.hid hk
          clear hk KF
          by_cases hlt2 : s < m + 1
          · obtain ⟨f, hf⟩ : ∃ f, m + 1 - s = f + 1 := ⟨m - s, by omega⟩
            have hf2 : m + 1 - (s + 1) = f := by omega
            have HF2 := Lib.hid hf2
            rw [hf, reachG] at hrc
            have hsV : LkV wr (.slice (some ⟨gl, 0, none⟩) m cl) Ls := by
              have h := SlV.of_own (HK2.out.row 1 rfl)
              unfold LkV
              rw [HLl.out]
              exact h
            have CI := Lib.hid (index_link Ls c sc hsc _ bn wr hsV (cells_at (HK2.out.at 0 rfl) 0) (by rw [HLl.out]; omega) hent)
            obtain ⟨x0, x1, x2, x3⟩ := row4 (HK2.out.at 1 rfl)
            have hslt : (s : Int) < (m : Int) + 1 := by omega
            clear hf hf2 hsV hsc
            by_cases hc : c ∈ nm Ls
            · rw [if_pos hc] at hrc CI
              obtain ⟨j, hj⟩ : ∃ j, (nm Ls).idxOf c = j := ⟨_, rfl⟩
              have hjm : j < m := by
                have h := List.idxOf_lt_length_of_mem hc
                rw [nm_len, HLl.out, hj] at h
                exact h
              have hjc : (nm Ls)[j]? = some c := by
                have h := List.idxOf_lt_length_of_mem hc
                rw [← hj, List.getElem?_eq_getElem h]
                exact congrArg some (List.getElem_idxOf h)
              have htg : tgt Ls c = (Ls.getD j ([], [])).2 := by rw [← hj]; rfl
              rw [hj] at CI
              have hj0 : ¬ (j : Int) < 0 := by omega
              by_cases hjp : j = pk
              · subst hjp
                have hcn : c = nk := Option.some.inj (hjc.symm.trans HNa.out)
                rw [if_pos hcn] at hrc
                have HRi := Lib.hid hrc.symm
                clear hrc hc hj hjc htg hcn
                go_wp2_with (first | (go_at_call 23; refine CI.out.mono ?_; rintro e X6 ⟨rfl, hb⟩; have K6 := Lib.hid (HK2.out.keep hb); have fz := K6.out.free hm1 i; have cz' := own_cell (K6.out.row 0 rfl) (rr_get (R := R) (i := i) hlt); clear hb))
                go_meet
                refine ⟨i, rfl, hlt, HRi.out, ?_⟩
                have h := (K6.out.put hm1 i (.bool true)).drop
                rw [rr_set hlt HRi.out] at h
                exact h
              · have hjpI : ¬ (j : Int) = (pk : Int) := by omega
                have hcn : ¬ c = nk := by
                  intro e
                  have h1 := idx_nodup HNd.out HNa.out
                  rw [← e, hj] at h1
                  exact hjp h1
                rw [if_neg hcn, htg] at hrc
                have HRc := Lib.hid hrc
                have hjl : j < Ls.length := by rw [HLl.out]; exact hjm
                obtain ⟨s2, hs2⟩ : ∃ x, bs (Ls.getD j ([], [])).2 = x := ⟨_, rfl⟩
                have HS2 := Lib.hid hs2
                clear hrc hc hj hjc htg hcn hjp
                go_wp2_with (first | (go_at_call 23; refine CI.out.mono ?_; rintro e X6 ⟨rfl, hb⟩; have K6 := Lib.hid (HK2.out.keep hb); obtain ⟨y0, y1, y2, y3⟩ := row4 (K6.out.at 1 rfl); have k0 := own_cell (K6.out.row 1 rfl) (lk_get hjl).1; rw [HS2.out] at k0; have b0 := cells_at (K6.out.at 0 rfl) 0; have b1 := free_at (K6.out.at 0 rfl) 0; clear hb))
                go_roundw
                case rel =>
                  refine ⟨s + 1, (Ls.getD j ([], [])).2, by omega, rfl, by go_num, by rw [HF2.out]; exact HRc.out, ?_⟩
                  rw [HS2.out]
                  exact K6.out.set 0 rfl 0 (.string s2) rfl
                case measure => simp [intOf]; omega
            · rw [if_neg hc] at hrc CI
              have HRi := Lib.hid hrc.symm
              clear hrc hc
              go_wp2_with (first | (go_at_call 23; refine CI.out.mono ?_; rintro e X6 ⟨rfl, hb⟩; have K6 := Lib.hid (HK2.out.keep hb); clear hb))
              go_meet
              refine ⟨pl, rfl, hpl, HRp.out, ?_⟩
              have h := K6.out.drop
              rw [rr_skip HRi.out] at h
              exact h
          · obtain rfl : s = m + 1 := by omega
            have hz : m + 1 - (m + 1) = 0 := by omega
            rw [hz] at hrc
            have HRi := Lib.hid (show R i = false from hrc.symm)
            have hnl : ¬ ((m + 1 : Nat) : Int) < (m : Int) + 1 := by omega
            clear hrc hsc
            go_wp2_with fail
            go_meet
            refine ⟨pl, rfl, hpl, HRp.out, ?_⟩
            have h := HK2.out.drop
            rw [rr_skip HRi.out] at h
            exact h
      case rest =>
        obtain ⟨pl', rfl, hpl', hr', hk⟩ := hcut
        have HKr := Lib.hid hk
        have HRr := Lib.hid hr'
        clear hk hr' HK HRp
        go_wp2_with fail
        go_roundw
        case rel => exact ⟨i + 1, pl', by omega, rfl, by go_num, hpl', HRr.out, HKr.out⟩
        case measure => simp [intOf]; omega
    · obtain rfl : m = i := by omega
      obtain ⟨nl, hnl⟩ : ∃ x, (Ls.getD pl ([], [])).1 = x := ⟨_, rfl⟩
      have hpll : pl < Ls.length := by rw [HLl.out]; exact hpl
      have HPll := Lib.hid hpll
      obtain ⟨L2, hL2⟩ : ∃ L, Ls.set pk (nk, nl) = L := ⟨_, rfl⟩
      have HT := Lib.hid (HTu.out L2 nl hL2.symm (by rw [← hnl, ← HR.out]; exact HRp.out))
      obtain ⟨f, hfp, hrf, hlow⟩ := first_true R pl HRp.out
      have hfm : f < m := by omega
      have HCk := Lib.hid (show checkL Zn L2 zoneOk = ((3, (f : Int)), 11) by
        rw [← HZn.out]
        exact HT.out.check hn1 hn6 hm12 hfm (by rw [← HR.out]; exact hrf) (fun j hj => by rw [← HR.out]; exact hlow j hj))
      have HN2 := Lib.hid (show ∀ j, j < m → (L2.getD j ([], [])).1 = (Ls.getD j ([], [])).1 by
        intro j hj
        have e := HT.out.fst j
        have hl2 : j < L2.length := by rw [← hL2, List.length_set, HLl.out]; exact hj
        have hl1 : j < Ls.length := by rw [HLl.out]; exact hj
        rw [List.getElem?_eq_getElem hl2, List.getElem?_eq_getElem hl1] at e
        rw [List.getD, List.getD, List.getElem?_eq_getElem hl2, List.getElem?_eq_getElem hl1]
        exact Option.some.inj e)
      have HEr := Lib.hid (show ∀ j, j < m → (findL Zn L2 (L2.getD j ([], [])).1).2 = if R j = true then 11 else 0 by
        intro j hj
        rw [← HZn.out, HN2.out j hj, HR.out]
        exact HT.out.err hn1 hm12 (List.mem_map.2 ⟨_, getP_mem (by rw [HLl.out]; exact hj), rfl⟩))
      have HL2l := Lib.hid (show L2.length = m by rw [← hL2, List.length_set]; exact HLl.out)
      have HL2b := Lib.hid (show ∀ p ∈ L2, p.1.length ≤ 100 ∧ p.2.length ≤ 100 by
        rw [← hL2]
        exact bigP_set HLb.out ⟨by rw [← HNk.out]; exact (HLb.out _ (getP_mem HPl.out)).1, by rw [← hnl]; exact (HLb.out _ (getP_mem hpll)).1⟩)
      have HSet := Lib.hid (show (Ls.flatMap kcells).set (pk * 2) (.string (bs nl)) = L2.flatMap kcells by
        rw [lks_set _ _ _ HPl.out, HNk.out, hL2])
      have HFl := Lib.hid (show R f = true ∧ ∀ j, j < f → R j = false from ⟨hrf, hlow⟩)
      obtain ⟨snl, hsnl⟩ : ∃ x, bs nl = x := ⟨_, rfl⟩
      rw [hsnl] at HSet
      have KD := Lib.hid HK.out.drew
      have c1 := own_cell (KD.out.row 1 rfl) (lk_get hpll).2
      rw [hnl, hsnl] at c1
      have c2 := own_cell (KD.out.row 1 rfl) (lk_get HPl.out).1
      have c3 := KD.out.swap.free hm1 (pk * 2)
      have hplI : (pl : Int) < (m : Int) := by omega
      have hpkI : (pk : Int) < (m : Int) := by omega
      have hfI : ¬ (f : Int) < 0 := by omega
      clear hnl hL2 hrf hlow hsnl hpll
      obtain ⟨x0, x1, x2, x3⟩ := row4 (HK.out.at 0 rfl)
      go_upto_region 20 with fail
      clear x0 x1 x2 x3
      obtain ⟨x0, x1, x2, x3⟩ := row4 (KD.out.at 0 rfl)
      go_cut [77] from 77 to 88 (fun _ wx => Kp [(S, .cells #[.slice none 0 0, .slice az n cz, .slice (some ⟨gl, 0, none⟩) m cl, .slice none 0 0] 27 (0, 0)), (W.heap.size, .cells #[.int .u8 (z : Int), .int .u8 (l : Int), .slice ta q tc, .int .u8 (t : Int)] 50 (0, 0))] [⟨.slice (some ⟨gr, 0, none⟩) m m, 4, 1, m, rrL m m R⟩, ⟨.slice (some ⟨gl, 0, none⟩) m cl, 36, 2, m, L2.flatMap kcells⟩, ⟨.slice az n cz, 33, 2, n, (zos Zn).flatMap zcells⟩] W wx)
      case first =>
        go_region_law (fail)
        all_goals
          (try go_wp2_with fail)
          go_meet
          have h := (KD.out.swap.put hm1 (pk * 2) (.string snl)).swap
          rw [HSet.out] at h
          exact h
      case rest =>
        have HK2 := Lib.hid hcut
        clear hcut HK KD c1 c2 c3 x0 x1 x2 x3
        have HSO := Lib.hid (fun (Y : World) (hY : Kp [(S, .cells #[.slice none 0 0, .slice az n cz, .slice (some ⟨gl, 0, none⟩) m cl, .slice none 0 0] 27 (0, 0)), (W.heap.size, .cells #[.int .u8 (z : Int), .int .u8 (l : Int), .slice ta q tc, .int .u8 (t : Int)] 50 (0, 0))] [⟨.slice (some ⟨gr, 0, none⟩) m m, 4, 1, m, rrL m m R⟩, ⟨.slice (some ⟨gl, 0, none⟩) m cl, 36, 2, m, L2.flatMap kcells⟩, ⟨.slice az n cz, 33, 2, n, (zos Zn).flatMap zcells⟩] W Y) => src_own (hY.row 2 rfl) (hY.row 1 rfl) HZl.out HL2l.out HZb.out HL2b.out)
        have HZo := Lib.hid (show (zos Zn).length = n by unfold zos; rw [List.length_map]; exact HZl.out)
        have CIx := Lib.hid (index_true R m f hfm HFl.out.1 HFl.out.2 (.slice (some ⟨gr, 0, none⟩) m m) wc (by
          have h := SlV.of_own (HK2.out.row 0 rfl)
          rw [rr_all] at h
          exact h) (by omega))
        go_upto_region 24 with (first
          | (go_at_call 25; refine CIx.out.mono ?_; rintro e X5 ⟨rfl, hb⟩; have K5 := Lib.hid (HK2.out.keep hb); obtain ⟨y0, y1, y2, y3⟩ := row4 (K5.out.at 0 rfl); clear hb)
          | (go_at_call 21; refine (checks_ok (.slice none 0 0) _ _ (.slice none 0 0) (zos Zn) L2 3 (f : Int) 11 _ (HSO.out _ K5.out) (by rw [HZo.out]; omega) (by rw [HL2l.out]; omega) (by rw [zos_names]; exact HCk.out)).mono ?_; rintro e X6 ⟨rfl, hb⟩; have K6 := Lib.hid (K5.out.keep hb); obtain ⟨z0, z1, z2, z3⟩ := row4 (K6.out.at 0 rfl); clear hb))
        clear y0 y1 y2 y3
        go_wp2_with fail
        clear z0 z1 z2 z3 HK2 K5 CIx
        go_loopw [14, 15, 16, 17, 101] (fun _ _ _ _ i101 wr => ∃ i : Nat, i ≤ m ∧ i101 = .int .i64 (i : Int) ∧ Kp [(S, .cells #[.slice none 0 0, .slice az n cz, .slice (some ⟨gl, 0, none⟩) m cl, .slice none 0 0] 27 (0, 0)), (W.heap.size, .cells #[.int .u8 (z : Int), .int .u8 (l : Int), .slice ta q tc, .int .u8 (t : Int)] 50 (0, 0))] [⟨.slice (some ⟨gr, 0, none⟩) m m, 4, 1, m, rrL m m R⟩, ⟨.slice (some ⟨gl, 0, none⟩) m cl, 36, 2, m, L2.flatMap kcells⟩, ⟨.slice az n cz, 33, 2, n, (zos Zn).flatMap zcells⟩] W wr) (fun _ _ _ _ i101 _ => m - (intOf i101).toNat)
        case atStart => exact ⟨0, by omega, rfl, K6.out⟩
        case round =>
          obtain ⟨i, hi', rfl, hk⟩ := hrel
          have HK := Lib.hid hk
          clear hk K6
          by_cases hlt : i < m
          · have hil : i < L2.length := by rw [HL2l.out]; exact hlt
            have c0 := own_cell (HK.out.row 1 rfl) (lk_get hil).1
            have c1 := own_cell (HK.out.row 1 rfl) (lk_get hil).2
            have HMe := Lib.hid (getP_mem hil)
            have her := HEr.out i hlt
            obtain ⟨p, hp⟩ : ∃ p, L2.getD i ([], []) = p := ⟨_, rfl⟩
            rw [hp] at c0 c1 HMe her
            obtain ⟨sn, hsn⟩ : ∃ s, bs p.1 = s := ⟨_, rfl⟩
            obtain ⟨st, hst⟩ : ∃ s, bs p.2 = s := ⟨_, rfl⟩
            rw [hst] at c0
            rw [hsn] at c1
            have KE := Lib.hid (HK.out.allocAt wr.heap.size rfl (.cells #[.string st, .string sn] 36))
            have hgw := own_lt (HK.out.row 1 rfl) hm1
            have HSn := Lib.hid hsn
            have HEri := Lib.hid her
            clear hsn hst hp her
            go_upto_region 27 with fail
            obtain ⟨Y5, hY5⟩ : ∃ Y, wr.alloc (.cells #[.string st, .string sn] 36) = Y := ⟨_, rfl⟩
            rw [hY5] at KE ⊢
            obtain ⟨bx, hbx⟩ : ∃ b, wr.heap.size = b := ⟨_, rfl⟩
            rw [hbx] at KE ⊢
            clear hY5 hbx c0 c1 hgw
            obtain ⟨q, hq⟩ : ∃ q, (findL Zn L2 p.1).1 = q := ⟨_, rfl⟩
            have CF := Lib.hid (find_any (.slice none 0 0) _ _ (.slice none 0 0) (zos Zn) L2 p.1 Y5 (HSO.out Y5 KE.out.drop) (by have := (HL2b.out p HMe.out).1; unfold maxLen; omega) (by rw [HZo.out]; omega) (by rw [HL2l.out]; omega))
            rw [HSn.out, zos_names, hq, HEri.out] at CF
            obtain ⟨x0, x1, x2, x3⟩ := row4 (KE.out.at 1 rfl)
            obtain ⟨y0, y1⟩ := row2 (KE.out.at 0 rfl)
            have HG := Lib.hid (show ∀ (Y : World), Y.ownsRow W.heap.size 4 1 (.slice (some ⟨gr, 0, none⟩) m m) m (rrL m m R) → Y.cell? ⟨gr, i, none⟩ = some (.bool (R i)) from fun Y hY => by
              have h := own_cell hY (rr_get (R := R) (i := m) hlt)
              rw [decide_eq_true hlt, Bool.true_and] at h
              exact h)
            clear hq
            obtain ⟨r, hr⟩ : ∃ r, R i = r := ⟨_, rfl⟩
            rw [hr] at CF HG
            clear hr
            cases r
            all_goals
              simp only [Bool.false_eq_true, if_false, if_true] at CF
              go_wp2_with (first | (go_at_call 13; refine CF.out.mono ?_; rintro e X7 ⟨rfl, hb⟩; have K7 := Lib.hid (KE.out.keep hb); have cg := HG.out _ (K7.out.row 0 rfl); clear hb))
              go_roundw
              case rel => exact ⟨i + 1, by omega, by go_num, K7.out.drop⟩
              case measure => simp [intOf]; omega
          · obtain rfl : m = i := by omega
            go_wp2_with (first | (go_at_call 9; refine (CW.out _).mono ?_; rintro e X8 ⟨rfl, hb8⟩; have K8 := Lib.hid (HK.out.keep hb8); clear hb8))
            exact bodyPost_ret (v := .bool true) (by simp [results, Tryd.results6, go_sem]) rfl ⟨rfl, K8.out.below⟩
end Go.Proofs.YtdeompnaojiajaaDoor.Px
