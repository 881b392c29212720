/- The law LookupSteps returns true for every table by numbers and instant: the walk. -/
import Derived.Test.YtlaplgaccjmbhaaGreatDoorRJ6
import Derived.Test.YtlaplgaccjmbhaaGreatDoorRJ3
namespace Go.Proofs.YtlaplgaccjmbhaaGreatDoor.Px
open Go.RowKit
open Civ Tb
theorem Kp.tab1 {L : List (Nat × Obj)} {R : List Rw} {r : Rw} {tv rv : Value} {x : Tab} {W X : World} (h : Kp L (r :: (tabR tv rv x ++ R)) W X) (hf : TabFit x) : TabV X tv rv (bs x.foot) x := (h.less (List.sublist_cons_self _ _)).tab hf
set_option maxHeartbeats 16000000 in
set_option maxRecDepth 100000 in
theorem steps_cells (n0 n1 o0 o1 k0 k1 d0 d1 s0 s1 : Int) (q : Bool) (fi : Int) (G K : List Int) (gv kv : Value) (t : Int) (W : World) (h : D45V W gv kv ⟨⟨n0, n1, o0, o1, k0, k1, d0, d1, s0, s1, q⟩, fi, G, K⟩) (hin : D45.In ⟨⟨n0, n1, o0, o1, k0, k1, d0, d1, s0, s1, q⟩, fi, G, K⟩) (hE : EnvAt W) :
    Calls Tryz.prog 4 #[.agg #[.int .u8 n0, .int .u8 n1, .int .u8 o0, .int .u8 o1, .int .u8 k0, .int .u8 k1, .int .u8 d0, .int .u8 d1, .int .u8 s0, .int .u8 s1, .bool q, .int .i32 fi, gv, kv], .int .i64 t] W fun e w' => e = .returned (.bool true) ∧ Below W.heap.size W w' := by
  have CC := Lib.hid (fun w h hE => changes_any n0 n1 o0 o1 k0 k1 d0 d1 s0 s1 q fi G K gv kv w h hin hE)
  have CW := Lib.hid (fun w hE => works45_any w hE)
  obtain ⟨D, hD⟩ : ∃ D, (⟨⟨n0, n1, o0, o1, k0, k1, d0, d1, s0, s1, q⟩, fi, G, K⟩ : D45) = D := ⟨_, rfl⟩
  rw [hD] at CC h hin
  obtain ⟨ga, gc, hgv, _, _⟩ := h.gaps.slice
  obtain ⟨ka, kc, hkv, _, _⟩ := h.kinds.slice
  obtain ⟨gn, hgn⟩ : ∃ n, D.gaps.length = n := ⟨_, rfl⟩
  obtain ⟨kn, hkn⟩ : ∃ n, D.kinds.length = n := ⟨_, rfl⟩
  rw [hgn] at hgv
  rw [hkn] at hkv
  subst hgv hkv
  obtain ⟨f1, f2⟩ := chg_fit D hin
  have hln := chg_len D
  have hmlen := made45_len D
  have CO := Lib.hid (fun av lv w h1 h2 h3 hE => of_any D.fst (D.chg.map Prod.fst) (D.chg.map Prod.snd) av lv (printL D.pos) w h1 h2 h3 (fst_fit D hin) f1 f2 hE (by rw [List.length_map]; omega))
  rw [ofT_made D hin] at CO
  dsimp only at CO
  have hfo : D.made.foot = printL D.pos := rfl
  rw [hfo] at CO
  have hcut := cut_is D.foot hin.fo
  have z1 : D.pos.std.size ≤ 7 := hcut.s0
  have z2 : D.pos.dst.size ≤ 7 := hcut.s1
  have CP := Lib.hid (fun w hE => parse_any (printL D.pos) w hE)
  rw [fin_two, show finG rfF (printL D.pos) = (D.pos, 0) from hcut.back] at CP
  have CA := Lib.hid (fun t w hE => atL_any D.pos t (by omega) (by omega) w hE)
  have CL := Lib.hid (fun t tv rv w h hE => look_any D.made tv rv (bs D.made.foot) t w h hE (by omega))
  rw [hfo] at CL
  obtain ⟨t', ht'⟩ : ∃ t', t.tmod 36028797018963969 = t' := ⟨_, rfl⟩
  have t0 : -36028797018963968 ≤ t' ∧ t' ≤ 36028797018963968 := by
    rw [← ht']
    have h1 := Int.lt_tmod_of_pos t (b := 36028797018963969) (by decide)
    have h2 := Int.tmod_lt_of_pos t (b := 36028797018963969) (by decide)
    omega
  have HI := Lib.hid (insts_bd D hin t0.1 t0.2)
  have HB := Lib.hid (chg_bd D hin)
  have HSt := Lib.hid (fun y y0 y1 => steps_look D hin (y := y) y0 y1)
  have HA0 := Lib.hid (fun y y0 y1 => (atL_cut hcut (t := y) y0 y1).1)
  have HA0 := Lib.hid (show ∀ y : Int, -36028797018963968 ≤ y → y ≤ 36028797018963968 → (atL D.pos y).2 = 0 from HA0.out)
  obtain ⟨⟨fo, fd, fa⟩, hfst⟩ : ∃ l, D.fst = l := ⟨_, rfl⟩
  obtain ⟨S, hS⟩ : ∃ S, printL D.pos = S := ⟨_, rfl⟩
  obtain ⟨g, hg⟩ : ∃ g, D.chg = g := ⟨_, rfl⟩
  obtain ⟨T, hT⟩ : ∃ T, D.made = T := ⟨_, rfl⟩
  obtain ⟨P, hP⟩ : ∃ P, D.pos = P := ⟨_, rfl⟩
  rw [hS] at CC CO CP CL hfo
  rw [hfst] at CC CO HSt
  rw [hg] at CC CO HI HB HSt hln
  rw [hT] at CO CL hmlen HSt hfo
  rw [hP] at CP CA HSt HA0
  obtain ⟨N, hN⟩ : ∃ n, g.length = n := ⟨_, rfl⟩
  rw [hN] at hln HSt
  obtain ⟨a, b, c, o, ⟨e1, e2, e3, e4, e5⟩, ⟨p1, p2, p3, p4, p5⟩⟩ := P
  have HAt := Lib.hid (fun y y0 y1 => HA0.out y y0 y1)
  unfold Pos.val at CP CA
  unfold Lc.val at CC CO
  dsimp only at CP CA CC CO
  have HN := Lib.hid hN
  have HFo := Lib.hid hfo
  have HH := Lib.hid h
  have HE := Lib.hid hE
  have K0 := Lib.hid ((Kp.start W).alloc (.cells #[.int .u8 n0, .int .u8 n1, .int .u8 o0, .int .u8 o1, .int .u8 k0, .int .u8 k1, .int .u8 d0, .int .u8 d1, .int .u8 s0, .int .u8 s1, .bool q, .int .i32 fi, .slice ga gn gc, .slice ka kn kc] 41))
  obtain ⟨j0, hj, hy0, hy1, hy2⟩ := info_parts infoI64
  clear h hE hin hD hgn hkn f1 f2 hcut z1 z2 hfst hS hg hT hP hfo t0 HA0 hN hmlen
  go_enter Tryz.func4, Tryz.ntmps4
  go_wp2_with fail
  refine (CC.out _ (HH.out.keep K0.out.below) (HE.out.keep K0.out.below)).mono ?_
  rintro _ V ⟨av, lv, rfl, hk⟩
  have hk1 := K0.out.adopt hk
  obtain ⟨aa, ac, rfl⟩ : ∃ a c, av = .slice a g.length c := own_slice (hk1.row 0 rfl)
  obtain ⟨la, lc, rfl⟩ : ∃ a c, lv = .slice a g.length c := own_slice (hk1.row 1 rfl)
  rw [HN.out] at hk1 ⊢
  have K1 := Lib.hid (hk1.alloc (.cells #[.int .i64 fo, .bool fd, .string fa] 28))
  clear hk hk1
  obtain ⟨c1, c2, c3⟩ := chR_at K1.out
  have C1 := Lib.hid (And.intro c1 (And.intro c2 c3))
  clear c1 c2 c3
  go_wp2_with fail
  refine (CO.out _ _ _ C1.out.1 C1.out.2.1 C1.out.2.2 (HE.out.keep K1.out.below)).mono ?_
  rintro _ V2 ⟨tv, rv, rfl, hk, hf⟩
  have hk2 := K1.out.adopt hk
  obtain ⟨M, hM⟩ : ∃ n, T.types.length = n := ⟨_, rfl⟩
  obtain ⟨O, hO⟩ : ∃ n, T.trans.length = n := ⟨_, rfl⟩
  obtain ⟨ta, tc, rfl⟩ : ∃ a c, tv = .slice a T.types.length c := own_slice (hk2.row 1 rfl)
  obtain ⟨ra, rc, rfl⟩ : ∃ a c, rv = .slice a T.trans.length c := own_slice (hk2.row 0 rfl)
  rw [hM, hO] at hk2 ⊢
  have K2 := Lib.hid (hk2.alloc (.cells #[.slice ta M tc, .slice ra O rc, .string (bs S)] 25))
  have HTV : Hid (∀ {L : List (Nat × Obj)} {R : List Rw} {r : Rw} {tv rv : Value} {X : World}, Kp L (r :: (tabR tv rv T ++ R)) W X → TabV X tv rv (bs S) T) := Lib.hid (by
    intro h
    rw [← HFo.out]
    exact h.tab1 hf)
  clear hk hk2 hf C1 hM hO
  go_wp2_with fail
  refine (CP.out _ (HE.out.keep K2.out.below)).mono ?_
  rintro _ V3 ⟨rfl, hb⟩
  have K3 := Lib.hid ((K2.out.keep hb).alloc (.cells #[.string a, .int .i64 b, .string c, .int .i64 o, .int .i64 e1, .int .i64 e2, .int .i64 e3, .int .i64 e4, .int .i64 e5, .int .i64 p1, .int .i64 p2, .int .i64 p3, .int .i64 p4, .int .i64 p5] 50))
  have K4 := Lib.hid ((K3.out.allocAt (V3.heap.size + 1) (by simp) (.cells #[.int .i64 t', .int .i64 (-36028797018963968), .int .i64 36028797018963968, .int .i64 0] 2)).own_block 1 4 4 (by omega) (by unfold maxLen; omega) rfl)
  have T0 : Hid (Kp [(V3.heap.size, .cells #[.string a, .int .i64 b, .string c, .int .i64 o, .int .i64 e1, .int .i64 e2, .int .i64 e3, .int .i64 e4, .int .i64 e5, .int .i64 p1, .int .i64 p2, .int .i64 p3, .int .i64 p4, .int .i64 p5] 50 (0, 0)), (V2.heap.size, .cells #[.slice ta M tc, .slice ra O rc, .string (bs S)] 25 (0, 0)), (V.heap.size, .cells #[.int .i64 fo, .bool fd, .string fa] 28 (0, 0)), (W.heap.size, .cells #[.int .u8 n0, .int .u8 n1, .int .u8 o0, .int .u8 o1, .int .u8 k0, .int .u8 k1, .int .u8 d0, .int .u8 d1, .int .u8 s0, .int .u8 s1, .bool q, .int .i32 fi, .slice ga gn gc, .slice ka kn kc] 41 (0, 0))] (⟨.slice (some ⟨V3.heap.size + 1, 0, none⟩) 4 4, 2, 1, 4 + 0 * 3, (insts t' (g.take 0)).map (Value.int .i64)⟩ :: (tabR (.slice ta M tc) (.slice ra O rc) T ++ (chR (.slice aa N ac) (.slice la N lc) g ++ []))) W _) := Lib.hid (by
    exact K4.out)
  clear hb K0 K1 K2 K3 K4
  go_wp2_with fail
  go_loopw [14, 16, 62] (fun v14 _ v62 wr => ∃ i : Nat, i ≤ N ∧ v62 = .int .i64 i ∧ Kp [(V3.heap.size, .cells #[.string a, .int .i64 b, .string c, .int .i64 o, .int .i64 e1, .int .i64 e2, .int .i64 e3, .int .i64 e4, .int .i64 e5, .int .i64 p1, .int .i64 p2, .int .i64 p3, .int .i64 p4, .int .i64 p5] 50 (0, 0)), (V2.heap.size, .cells #[.slice ta M tc, .slice ra O rc, .string (bs S)] 25 (0, 0)), (V.heap.size, .cells #[.int .i64 fo, .bool fd, .string fa] 28 (0, 0)), (W.heap.size, .cells #[.int .u8 n0, .int .u8 n1, .int .u8 o0, .int .u8 o1, .int .u8 k0, .int .u8 k1, .int .u8 d0, .int .u8 d1, .int .u8 s0, .int .u8 s1, .bool q, .int .i32 fi, .slice ga gn gc, .slice ka kn kc] 41 (0, 0))] (⟨v14, 2, 1, 4 + i * 3, (insts t' (g.take i)).map (Value.int .i64)⟩ :: (tabR (.slice ta M tc) (.slice ra O rc) T ++ (chR (.slice aa N ac) (.slice la N lc) g ++ []))) W wr) (fun _ _ v62 _ => N - (intOf v62).toNat)
  case atStart => exact ⟨0, by omega, rfl, T0.out⟩
  case round =>
    obtain ⟨i, hi', rfl, hK⟩ := hrel
    obtain ⟨ia, ic, rfl⟩ : ∃ a c, u14 = .slice a (4 + i * 3) c := own_slice (hK.row 0 rfl)
    have HK := Lib.hid hK
    clear hK T0
    by_cases hlt : i < N
    · obtain ⟨⟨z, l⟩, hx⟩ : ∃ x, g[i]? = some x := ⟨_, List.getElem?_eq_getElem (by rw [HN.out]; omega)⟩
      have hz := HB.out _ (List.mem_of_getElem? hx)
      obtain ⟨hz0, hz1⟩ := hz
      dsimp only at hz0 hz1
      obtain ⟨g3, rfl, -, -, -, hg3⟩ := own_some (HK.out.row 3 rfl) (Nat.lt_of_lt_of_eq (by omega) HN.out.symm)
      have d0 : wr.cell? ⟨g3, i, none⟩ = some (.int .i64 z) := own_cell (HK.out.row 3 rfl) (by rw [List.getElem?_map, hx]; rfl)
      have hnext : (insts t' (g.take (i + 1))).map (Value.int .i64) = (insts t' (g.take i)).map (Value.int .i64) ++ [.int .i64 (z - 1), .int .i64 z, .int .i64 (z + 1)] := by
        rw [List.take_add_one, hx]
        show (insts t' (g.take i ++ [(z, l)])).map _ = _
        rw [insts_snoc, List.map_append]
        rfl
      have HX := Lib.hid hnext
      have hlt' : (i : Int) < (N : Int) := by omega
      have KA := Lib.hid (HK.out.alloc (.cells #[.int .i64 (z - 1), .int .i64 z, .int .i64 (z + 1)] 2))
      clear hx hnext
      go_wp2_with (first
        | (at_builtin; refine wpList_append_own_at _ rfl (.tmp 66) (.tmp 72) 42 rfl W.heap.size 2 j0 (.int .i64 0) 1 8 Tryz.underlying42 hj hy0 hy1 hy2 rfl (by decide) _ (4 + i * 3) _ rfl (KA.out.row 0 rfl) ⟨wr.heap.size, 0, none⟩ 3 3 [.int .i64 (z - 1), .int .i64 z, .int .i64 (z + 1)] rfl rfl ?c1 ?c2 ?c3 ?c4 ?c5 ?_; (case c1 => exact World.news_of_block (KA.out.at 0 rfl)); (case c2 => simp [Value.oneCell']); (case c3 => unfold maxLen; omega); (case c4 => omega); (case c5 => exact KA.out.below.size); intro v' w1 hown hgrow _ hat; have KB := Lib.hid (KA.out.append hown hgrow hat).drop; clear hown hgrow hat))
      go_roundw
      case rel =>
        refine ⟨i + 1, by omega, by go_num, ?_⟩
        rw [HX.out, show 4 + (i + 1) * 3 = 4 + i * 3 + 3 by omega]
        exact KB.out
      case measure => simp [intOf]; omega
    · obtain rfl : i = N := by omega
      obtain ⟨Q, hQ⟩ : ∃ Q, 4 + i * 3 = Q := ⟨_, rfl⟩
      have hQl : (insts t' g).length = Q := by rw [insts_len, HN.out]; exact hQ
      have hk := HK.out
      rw [List.take_of_length_le (by rw [HN.out]; omega), hQ] at hk
      rw [hQ]
      obtain ⟨J, hJ⟩ : ∃ J, insts t' g = J := ⟨_, rfl⟩
      rw [hJ] at hk hQl HI
      obtain ⟨gi, rfl, -, hic, hic2, hgi⟩ := own_some (hk.row 0 rfl) (show 0 < Q by omega)
      unfold maxLen at hic2
      have KT := Lib.hid hk
      have HQ := Lib.hid hQl
      clear hk hQ HK hJ hQl
      go_wp2_with fail
      go_loopw [13, 18, 19, 20, 21, 22, 23, 24, 77] (fun v13 _ _ _ _ _ _ _ v77 wr => ∃ k : Nat, k ≤ Q ∧ v77 = .int .i64 k ∧ v13 = .int .i64 0 ∧ Kp [(V3.heap.size, .cells #[.string a, .int .i64 b, .string c, .int .i64 o, .int .i64 e1, .int .i64 e2, .int .i64 e3, .int .i64 e4, .int .i64 e5, .int .i64 p1, .int .i64 p2, .int .i64 p3, .int .i64 p4, .int .i64 p5] 50 (0, 0)), (V2.heap.size, .cells #[.slice ta M tc, .slice ra O rc, .string (bs S)] 25 (0, 0)), (V.heap.size, .cells #[.int .i64 fo, .bool fd, .string fa] 28 (0, 0)), (W.heap.size, .cells #[.int .u8 n0, .int .u8 n1, .int .u8 o0, .int .u8 o1, .int .u8 k0, .int .u8 k1, .int .u8 d0, .int .u8 d1, .int .u8 s0, .int .u8 s1, .bool q, .int .i32 fi, .slice ga gn gc, .slice ka kn kc] 41 (0, 0))] (⟨.slice (some ⟨gi, 0, none⟩) Q ic, 2, 1, Q, J.map (Value.int .i64)⟩ :: (tabR (.slice ta M tc) (.slice ra O rc) T ++ (chR (.slice aa i ac) (.slice la i lc) g ++ []))) W wr) (fun _ _ _ _ _ _ _ _ v77 _ => Q - (intOf v77).toNat)
      case atStart => exact ⟨0, by omega, rfl, rfl, KT.out⟩
      case round =>
        obtain ⟨k, hk', rfl, rfl, hK⟩ := hrel
        have HK := Lib.hid hK
        clear hK KT
        by_cases hlk : k < Q
        · obtain ⟨y, hy⟩ : ∃ y, J[k]? = some y := ⟨_, List.getElem?_eq_getElem (by rw [HQ.out]; omega)⟩
          obtain ⟨by0, by1⟩ := HI.out y (List.mem_of_getElem? hy)
          have dk : wr.cell? ⟨gi, k, none⟩ = some (.int .i64 y) := own_cell (HK.out.row 0 rfl) (by rw [List.getElem?_map, hy]; rfl)
          have hs := HSt.out y by0 by1
          have hat := HAt.out y by0 by1
          have CLy := Lib.hid (CL.out y)
          have CAy := Lib.hid (CA.out y)
          have HS := Lib.hid hs
          have HA := Lib.hid hat
          have hgw : gi < wr.heap.size := ((HK.out.row 0 rfl).lt gi rfl).2
          have hlk' : (k : Int) < (Q : Int) := by omega
          obtain ⟨⟨x0, x1, x2⟩, _, _, _⟩ := row3 (HK.out.at 2 rfl)
          have z0 := HK.out.lt 2 rfl
          have I0 := Lib.hid (show Kp ((wr.heap.size, .cells #[.int .i64 (inF y ⟨fo, fd, fa⟩ (g.take 0)).off, .bool (inF y ⟨fo, fd, fa⟩ (g.take 0)).dst, .string (inF y ⟨fo, fd, fa⟩ (g.take 0)).abbr] 28 (0, 0)) :: _) _ W _ from HK.out.alloc (.cells #[.int .i64 fo, .bool fd, .string fa] 28))
          clear hy hs hat HK
          go_wp2_with fail
          go_loopw [20, 21, 22, 84] (fun v20 _ _ v84 wx => ∃ (j m : Nat) (w : Lc), j ≤ i ∧ v84 = .int .i64 j ∧ v20 = .int .i64 m ∧ m = nF y 0 0 (g.take j) ∧ w = inF y ⟨fo, fd, fa⟩ (g.take j) ∧ Kp ((wr.heap.size, .cells #[.int .i64 w.off, .bool w.dst, .string w.abbr] 28 (0, 0)) :: [(V3.heap.size, .cells #[.string a, .int .i64 b, .string c, .int .i64 o, .int .i64 e1, .int .i64 e2, .int .i64 e3, .int .i64 e4, .int .i64 e5, .int .i64 p1, .int .i64 p2, .int .i64 p3, .int .i64 p4, .int .i64 p5] 50 (0, 0)), (V2.heap.size, .cells #[.slice ta M tc, .slice ra O rc, .string (bs S)] 25 (0, 0)), (V.heap.size, .cells #[.int .i64 fo, .bool fd, .string fa] 28 (0, 0)), (W.heap.size, .cells #[.int .u8 n0, .int .u8 n1, .int .u8 o0, .int .u8 o1, .int .u8 k0, .int .u8 k1, .int .u8 d0, .int .u8 d1, .int .u8 s0, .int .u8 s1, .bool q, .int .i32 fi, .slice ga gn gc, .slice ka kn kc] 41 (0, 0))]) (⟨.slice (some ⟨gi, 0, none⟩) Q ic, 2, 1, Q, J.map (Value.int .i64)⟩ :: (tabR (.slice ta M tc) (.slice ra O rc) T ++ (chR (.slice aa i ac) (.slice la i lc) g ++ []))) W wx) (fun _ _ _ v84 _ => i - (intOf v84).toNat)
          case atStart => exact ⟨0, 0, _, by omega, rfl, rfl, rfl, rfl, I0.out⟩
          case round =>
            obtain ⟨j, m, ⟨wo, wd, wa⟩, hj', rfl, rfl, hm, hw, hKi⟩ := hrel
            have HKi := Lib.hid hKi
            dsimp only at HKi
            clear hKi I0 dk x0 x1 x2 z0 hgw
            by_cases hlj : j < i
            · obtain ⟨⟨z, ⟨lo, ld, la2⟩⟩, hx⟩ : ∃ x, g[j]? = some x := ⟨_, List.getElem?_eq_getElem (by rw [HN.out]; omega)⟩
              obtain ⟨g3, rfl, -, -, -, hg3⟩ := own_some (HKi.out.row 3 rfl) (Nat.lt_of_lt_of_eq (by omega) HN.out.symm)
              obtain ⟨g4, rfl, -, -, -, hg4⟩ := own_some (HKi.out.row 4 rfl) (Nat.lt_of_lt_of_eq (by omega) HN.out.symm)
              have d0 : wr.cell? ⟨g3, j, none⟩ = some (.int .i64 z) := own_cell (HKi.out.row 3 rfl) (by rw [List.getElem?_map, hx]; rfl)
              obtain ⟨d1, d2, d3⟩ := lc_cell (HKi.out.row 4 rfl) (i := j) (x := ⟨lo, ld, la2⟩) (by rw [List.getElem?_map, hx]; rfl)
              dsimp only at d1 d2 d3
              have hnx : nF y 0 0 (g.take (j + 1)) = if z ≤ y then j + 1 else m := by
                rw [List.take_add_one, hx]
                show nF y 0 0 (g.take j ++ [(z, _)]) = _
                rw [nF_snoc, ← hm, List.length_take, HN.out, Nat.min_eq_left (by omega), Nat.zero_add]
              have hix : inF y ⟨fo, fd, fa⟩ (g.take (j + 1)) = if z ≤ y then ⟨lo, ld, la2⟩ else ⟨wo, wd, wa⟩ := by
                rw [List.take_add_one, hx]
                show inF y _ (g.take j ++ [(z, _)]) = _
                rw [inF_snoc, ← hw]
              have HNX := Lib.hid hnx
              have HIX := Lib.hid hix
              have hlj' : (j : Int) < (i : Int) := by omega
              obtain ⟨⟨x0, x1, x2⟩, s0', s1', s2'⟩ := row3 (HKi.out.at 0 rfl)
              have z0 := HKi.out.lt 0 rfl
              clear hx hnx hix hm hw
              by_cases hzy : z ≤ y
              · rw [if_pos hzy] at HNX HIX
                go_wp2_with fail
                go_roundw
                case rel => exact ⟨j + 1, j + 1, ⟨lo, ld, la2⟩, by omega, by go_num, by go_num, HNX.out.symm, HIX.out.symm, ((HKi.out.set 0 rfl 0 _ rfl).set 0 rfl 1 _ rfl).set 0 rfl 2 _ rfl⟩
                case measure => simp [intOf]; omega
              · rw [if_neg hzy] at HNX HIX
                go_wp2_with fail
                go_roundw
                case rel => exact ⟨j + 1, m, ⟨wo, wd, wa⟩, by omega, by go_num, rfl, HNX.out.symm, HIX.out.symm, HKi.out⟩
                case measure => simp [intOf]; omega
            · obtain rfl : j = i := by omega
              rw [List.take_of_length_le (by rw [HN.out]; omega)] at hm hw
              have hs := HS.out
              rw [← hm, ← hw] at hs
              clear HS hm hw
              obtain ⟨⟨x0, x1, x2⟩, s0', s1', s2'⟩ := row3 (HKi.out.at 0 rfl)
              obtain ⟨y0, y1, y2, y3, y4, y5, y6, y7, y8, y9, y10, y11, y12, y13⟩ := row14 (HKi.out.at 1 rfl)
              obtain ⟨⟨r0, r1, r2⟩, _, _, _⟩ := row3 (HKi.out.at 2 rfl)
              have z0 := HKi.out.lt 0 rfl
              have z1 := HKi.out.lt 1 rfl
              have z2 := HKi.out.lt 2 rfl
              by_cases e : m = j
              · rw [if_pos e] at hs
                obtain ⟨⟨⟨lo, ld, la2⟩, ee⟩, hA⟩ : ∃ A, atL ⟨a, b, c, o, ⟨e1, e2, e3, e4, e5⟩, ⟨p1, p2, p3, p4, p5⟩⟩ y = A := ⟨_, rfl⟩
                have ha := HA.out
                rw [hA] at ha hs
                dsimp only at ha
                subst ha
                have C1 := CLy.out
                have C2 := CAy.out
                rw [hs] at C1
                rw [hA] at C2
                unfold Lc.val at C1 C2
                dsimp only at C1 C2
                have CL1 := Lib.hid C1
                have CA1 := Lib.hid C2
                clear C1 C2 hs hA CLy CAy
                subst e
                go_wp2_with fail
                refine (CA1.out _ (HE.out.keep HKi.out.below)).mono ?_
                rintro _ V4 ⟨rfl, hb⟩
                have KA := Lib.hid (HKi.out.keep hb)
                have KB := Lib.hid (((KA.out.set 0 rfl 0 (.int .i64 lo) rfl).set 0 rfl 1 (.bool ld) rfl).set 0 rfl 2 (.string la2) rfl)
                clear hb x0 x1 x2 s0' s1' s2' y0 y1 y2 y3 y4 y5 y6 y7 y8 y9 y10 y11 y12 y13 r0 r1 r2 z0 z1 z2
                obtain ⟨⟨x0, x1, x2⟩, s0', s1', s2'⟩ := row3 (KA.out.at 0 rfl)
                obtain ⟨⟨r0, r1, r2⟩, _, _, _⟩ := row3 (KA.out.at 2 rfl)
                have z0 := KA.out.lt 0 rfl
                have z2 := KA.out.lt 2 rfl
                have ne1 := KA.out.known.other (j := 0) (k := 2) rfl rfl (by decide)
                have ne2 := Ne.symm ne1
                go_wp2_with fail
                refine (CL1.out _ _ _ (HTV.out KB.out) (HE.out.keep KB.out.below)).mono ?_
                rintro _ V5 ⟨rfl, hb⟩
                have KC := Lib.hid (KB.out.keep hb)
                have KD := Lib.hid (KC.out.alloc (.cells #[.int .i64 lo, .bool ld, .string la2] 28))
                clear hb x0 x1 x2 s0' s1' s2' r0 r1 r2 z0 z2 ne1 ne2
                obtain ⟨⟨x0, x1, x2⟩, s0', s1', s2'⟩ := row3 (KC.out.at 0 rfl)
                have z0 := KC.out.lt 0 rfl
                go_wp2_with fail
                go_roundw
                case rel => exact ⟨k + 1, by omega, by go_num, rfl, KD.out.drop.drop⟩
                case measure => simp [intOf]; omega
              · rw [if_neg e] at hs
                have en : ¬ (m : Int) = (j : Int) := by omega
                have C1 := CLy.out
                rw [hs] at C1
                unfold Lc.val at C1
                dsimp only at C1
                have CL1 := Lib.hid C1
                clear C1 hs CLy CAy e
                go_wp2_with fail
                refine (CL1.out _ _ _ (HTV.out HKi.out) (HE.out.keep HKi.out.below)).mono ?_
                rintro _ V5 ⟨rfl, hb⟩
                have KC := Lib.hid (HKi.out.keep hb)
                have KD := Lib.hid (KC.out.alloc (.cells #[.int .i64 wo, .bool wd, .string wa] 28))
                clear hb x0 x1 x2 s0' s1' s2' y0 y1 y2 y3 y4 y5 y6 y7 y8 y9 y10 y11 y12 y13 r0 r1 r2 z0 z1 z2
                obtain ⟨⟨x0, x1, x2⟩, s0', s1', s2'⟩ := row3 (KC.out.at 0 rfl)
                have z0 := KC.out.lt 0 rfl
                go_wp2_with fail
                go_roundw
                case rel => exact ⟨k + 1, by omega, by go_num, rfl, KD.out.drop.drop⟩
                case measure => simp [intOf]; omega
        · obtain rfl : k = Q := by omega
          go_wp2_with fail
          refine (CW.out _ (HE.out.keep HK.out.below)).mono ?_
          rintro _ V6 ⟨rfl, hb⟩
          have K9 := Lib.hid (HK.out.keep hb)
          clear hb
          go_wp2_with fail
          go_ret
          exact ⟨rfl, K9.out.below⟩
end Go.Proofs.YtlaplgaccjmbhaaGreatDoor.Px

