/- The law FlattenOrder, walked. -/
import Derived.Test.YtnffecoohkanhaaDoorM18
import Derived.Test.YtnffecoohkanhaaDoorM26
import Derived.Test.YtnffecoohkanhaaDoorM8
import Derived.Test.YtnffecoohkanhaaDoorYDrO
import Derived.Test.YtnffecoohkanhaaDoorYDrR
import Derived.Deep.DeepCutAuto
namespace Go.Proofs.YtnffecoohkanhaaDoor.Px
open Go.RowKit
open Go.Maps (Keyed)
open Lk Ld St Py

theorem zt_rot {X : World} {T : List ZnT} {Q : List Zo} (h : ZT X T Q) (k : Nat) : ZT X (rot k T) (rot k Q) := by
  have hl := h.len
  refine ⟨?_, fun i p o hp ho => ?_⟩
  · unfold rot
    rw [List.map_append, List.map_append, List.map_drop, List.map_take, List.map_drop, List.map_take, h.1]
  · unfold rot at hp ho
    have e1 : (T.drop k).length = T.length - k := List.length_drop
    have e2 : (Q.drop k).length = T.length - k := by rw [List.length_drop, hl]
    by_cases hi : i < T.length - k
    · rw [List.getElem?_append_left (by omega), List.getElem?_drop] at hp
      rw [List.getElem?_append_left (by omega), List.getElem?_drop] at ho
      exact h.2 _ p o hp ho
    · rw [List.getElem?_append_right (by omega), e1, List.getElem?_take] at hp
      rw [List.getElem?_append_right (by omega), e2, List.getElem?_take] at ho
      split at hp
      · rename_i h1
        rw [if_pos h1] at ho
        exact h.2 _ p o hp ho
      · cases hp
theorem stb_order {β : Type} {D C : List (List UInt8 × β)} (h : Stb (rkN D) D C) : ∀ (i : Nat) (x y : List UInt8 × β), C[i]? = some x → C[i + 1]? = some y → ¬ y.1 < x.1 := by
  intro i x y hx hy hlt
  obtain ⟨hi, e1⟩ := List.getElem?_eq_some_iff.1 hx
  obtain ⟨hj, e2⟩ := List.getElem?_eq_some_iff.1 hy
  have hs := List.pairwise_iff_getElem.1 h.sorted i (i + 1) hi hj (by omega)
  rw [e1, e2] at hs
  have := (rkN_ok D y ((h.mem y).1 (List.mem_of_getElem? hy)) x ((h.mem x).1 (List.mem_of_getElem? hx))).1 hlt
  omega
theorem rot_all {α : Type} (k : Nat) (l : List α) (hk : k ≤ l.length) : (l.drop k).length + (l.take k).length = l.length := by rw [List.length_drop, List.length_take]; omega
set_option maxHeartbeats 8000000 in
set_option maxRecDepth 100000 in
theorem order35_any (sv zv lv : Value) (vs zs : List Value) (Ln : List Nat) (z l t : Nat) (To : List Nat) (tv : Value) (by1 ot : Nat) (W : World) (h : D23 W sv zv lv vs zs Ln) (hz : z < 256) (hl : l < 256) (ht : t < 256) (hT : SlV W tv 1 To.length (To.map u8v)) (hTo : ∀ b ∈ To, b < 256) (hby : by1 < 256) (hot : ot < 256) (hE : EnvAt W) :
    Calls Tryd.prog 7 #[.agg #[sv, zv, lv], .agg #[.int .u8 (z : Int), .int .u8 (l : Int), tv, .int .u8 (t : Int)], .int .u8 (by1 : Int), .int .u8 (ot : Int)] W fun e w' => e = .returned (.bool true) ∧ Below W.heap.size W w' := by
  have C23 := Lib.hid (fun (Y : World) (hB : Below W.heap.size W Y) => made23src_any sv zv lv vs zs Ln Y (h.keep hB) (hE.keep hB))
  have C15 := Lib.hid (fun (Y : World) (hB : Below W.heap.size W Y) => made_any z l t To tv Y hz hl ht (hT.keep hB) hTo (hE.keep hB))
  obtain ⟨sa, sc, rfl, _, _⟩ := h.s.slA
  obtain ⟨za, zc, rfl, _, _⟩ := h.z.slA
  obtain ⟨la, lc, rfl, _, _⟩ := h.l.slA
  obtain ⟨ta, tc, rfl, _, _⟩ := hT.slA
  obtain ⟨vn, hvn⟩ : ∃ n, vs.length = n := ⟨_, rfl⟩
  obtain ⟨zn0, hzn0⟩ : ∃ n, zs.length = n := ⟨_, rfl⟩
  obtain ⟨ln0, hln0⟩ : ∃ n, Ln.length = n := ⟨_, rfl⟩
  obtain ⟨tn, htn⟩ : ∃ n, To.length = n := ⟨_, rfl⟩
  rw [hvn, hzn0, hln0] at C23
  rw [htn] at C15
  rw [hvn, hzn0, hln0, htn]
  obtain ⟨n5, hn5⟩ : ∃ n, 1 + z % 6 = n := ⟨_, rfl⟩
  obtain ⟨m5, hm5⟩ : ∃ m, l % 13 = m := ⟨_, rfl⟩
  obtain ⟨k5, hk5⟩ : ∃ k, t % m5 = k := ⟨_, rfl⟩
  rw [hn5, hm5, hk5] at C15
  have hn51 : 1 ≤ n5 := by omega
  have hn56 : n5 ≤ 6 := by omega
  have hm512 : m5 ≤ 12 := by omega
  obtain ⟨L5, hL5⟩ : ∃ L, rot k5 (lkN n5 m5 To) = L := ⟨_, rfl⟩
  obtain ⟨Zn, hZn⟩ : ∃ L, zN n5 t = L := ⟨_, rfl⟩
  rw [hL5, hZn] at C15
  have HL5 := Lib.hid hL5
  have HZn := Lib.hid (And.intro hZn (show Zn.length = n5 by rw [← hZn]; exact zN_len))
  have HL5l := Lib.hid (show L5.length = m5 by rw [← hL5]; exact made_len)
  have K0 := Lib.hid (((Kp.start W).allocAt W.heap.size rfl (.cells #[.slice sa vn sc, .slice za zn0 zc, .slice la ln0 lc] 54)).allocAt (W.heap.size + 1) (by simp) (.cells #[.int .u8 (z : Int), .int .u8 (l : Int), .slice ta tn tc, .int .u8 (t : Int)] 56))
  obtain ⟨W1, hW1⟩ : ∃ X, (W.alloc (.cells #[.slice sa vn sc, .slice za zn0 zc, .slice la ln0 lc] 54)).alloc (.cells #[.int .u8 (z : Int), .int .u8 (l : Int), .slice ta tn tc, .int .u8 (t : Int)] 56) = X := ⟨_, rfl⟩
  rw [hW1] at K0
  obtain ⟨v0, v1, v2⟩ := (row3 (K0.out.at 1 rfl)).1
  obtain ⟨u0, u1, u2, u3⟩ := row4 (K0.out.at 0 rfl)
  clear h hT hTo hE hvn hzn0 hln0 htn hn5 hm5 hk5 hL5 hZn
  go_enter Tryd.func7, Tryd.ntmps7
  go_upto_region 1 with fail
  try rw [hW1]
  clear hW1
  go_upto_region 2 with (first | (go_at_call 19; refine (C23.out _ K0.out.below).mono ?_; rintro e X ⟨rv, zv', lv', D, T, E, p, m, rfl, hp1, hp3, hm4, hD, hZ, hk⟩; have hka := K0.out.adopt hk; rw [List.append_nil] at hka; obtain ⟨ra, rc, rfl⟩ : ∃ a c, rv = .slice a D.length c := own_slice (hka.row 2 rfl); obtain ⟨za3, zc3, rfl⟩ : ∃ a c, zv' = .slice a p c := own_slice (hka.row 1 rfl); obtain ⟨la4, lc4, rfl⟩ : ∃ a c, lv' = .slice a m c := own_slice (hka.row 0 rfl); have K1 := Lib.hid (hka.allocAt X.heap.size rfl (.cells #[.slice ra D.length rc, .slice za3 p zc3, .slice la4 m lc4, .slice none 0 0] 27)); have HZ := Lib.hid hZ; clear hk hka hZ C23))
  obtain ⟨S, hSq⟩ : ∃ S, X.heap.size = S := ⟨_, rfl⟩
  obtain ⟨Y1, hY1⟩ : ∃ Y, X.alloc (.cells #[.slice ra D.length rc, .slice za3 p zc3, .slice la4 m lc4, .slice none 0 0] 27) = Y := ⟨_, rfl⟩
  rw [hY1] at K1 ⊢
  rw [hSq] at K1 ⊢
  clear hY1 hSq v0 v1 v2 u0 u1 u2 u3 K0
  obtain ⟨u0, u1, u2, u3⟩ := row4 (K1.out.at 1 rfl)
  go_upto_region 3 with (first | (go_at_call 20; refine (C15.out _ K1.out.below).mono ?_; rintro e X ⟨zv5, lv5, rfl, hk⟩; have hka := K1.out.adopt hk; obtain ⟨za5, zc5, rfl⟩ : ∃ a c, zv5 = .slice a n5 c := own_slice (hka.row 1 rfl); obtain ⟨la5, lc5, rfl⟩ : ∃ a c, lv5 = .slice a m5 c := own_slice (hka.row 0 rfl); have K2 := Lib.hid (hka.allocAt X.heap.size rfl (.cells #[.slice none 0 0, .slice za5 n5 zc5, .slice la5 m5 lc5, .slice none 0 0] 27)); clear hk hka C15))
  obtain ⟨M, hMq⟩ : ∃ S, X.heap.size = S := ⟨_, rfl⟩
  obtain ⟨Y2, hY2⟩ : ∃ Y, X.alloc (.cells #[.slice none 0 0, .slice za5 n5 zc5, .slice la5 m5 lc5, .slice none 0 0] 27) = Y := ⟨_, rfl⟩
  rw [hY2] at K2 ⊢
  rw [hMq] at K2 ⊢
  clear hY2 hMq u0 u1 u2 u3 K1
  have HNl := Lib.hid (fun c => own_nil2 (K2.out.row 0 rfl) m5 c)
  have HNz := Lib.hid (fun c => own_nil2 (K2.out.row 1 rfl) n5 c)
  obtain ⟨X1, hx1, hA1⟩ := kp_known K2.out
  obtain ⟨X2, hx2, hA2⟩ := kp_known hx1
  have HA1 := Lib.hid (show Always X1 W (fun Y => SlV Y (.slice la5 m5 lc5) 2 m5 (L5.flatMap kcells)) from hA1)
  have HA2 := Lib.hid (show Always X2 W (fun Y => SlV Y (.slice za5 n5 zc5) 2 n5 ((zos Zn).flatMap zcells)) from hA2)
  have K4 := Lib.hid (show Kp ((M, .cells #[.slice none 0 0, .slice za5 n5 zc5, .slice la5 m5 lc5, .slice none 0 0] 27) :: (S, .cells #[.slice ra D.length rc, .slice za3 p zc3, .slice la4 m lc4, .slice none 0 0] 27) :: (W.heap.size + 1, .cells #[.int .u8 (z : Int), .int .u8 (l : Int), .slice ta tn tc, .int .u8 (t : Int)] 56) :: (W.heap.size, .cells #[.slice sa vn sc, .slice za zn0 zc, .slice la ln0 lc] 54) :: (X1 ++ X2)) (⟨.slice za3 p zc3, 40, 2, p, (E.map Prod.snd).flatMap zcells⟩ :: ⟨.slice la4 m lc4, 43, 2, m, (L23 p m Ln).flatMap kcells⟩ :: ⟨.slice ra D.length rc, 36, 11, D.length, D.flatMap ruqC⟩ :: E.reverse.map eraR) W Y2 from (show Kp ((M, .cells #[.slice none 0 0, .slice za5 n5 zc5, .slice la5 m5 lc5, .slice none 0 0] 27) :: (S, .cells #[.slice ra D.length rc, .slice za3 p zc3, .slice la4 m lc4, .slice none 0 0] 27) :: (W.heap.size + 1, .cells #[.int .u8 (z : Int), .int .u8 (l : Int), .slice ta tn tc, .int .u8 (t : Int)] 56) :: (W.heap.size, .cells #[.slice sa vn sc, .slice za zn0 zc, .slice la ln0 lc] 54) :: (X1 ++ X2)) (⟨.slice la4 m lc4, 43, 2, m, (L23 p m Ln).flatMap kcells⟩ :: ⟨.slice za3 p zc3, 40, 2, p, (E.map Prod.snd).flatMap zcells⟩ :: ⟨.slice ra D.length rc, 36, 11, D.length, D.flatMap ruqC⟩ :: E.reverse.map eraR) W Y2 from hx2).swap)
  clear hA1 hA2 hx1 hx2 K2
  obtain ⟨iz, hzz, hz0, hz1, hz2⟩ := info_partsU infoZn
  obtain ⟨il, hlz, hl0, hl1, hl2⟩ := info_partsU infoLn
  refine Py.wp_region_kps_tail 11 (by kernel_rfl) (by kernel_rfl) W _ (⟨.slice ra D.length rc, 36, 11, D.length, D.flatMap ruqC⟩ :: E.reverse.map eraR) [⟨4, 24, ⟨.slice za3 p zc3, 40, 2, p, (E.map Prod.snd).flatMap zcells⟩, p + n5, (E.map Prod.snd).flatMap zcells ++ (zos Zn).flatMap zcells⟩, ⟨9, 29, ⟨.slice la4 m lc4, 43, 2, m, (L23 p m Ln).flatMap kcells⟩, m + m5, (L23 p m Ln).flatMap kcells ++ L5.flatMap kcells⟩] [] (by kernel_rfl) (kkS [(20, .eq (.pointer (some ⟨S, 1, none⟩))), (21, .eq (.slice za3 p zc3)), (22, .eq (.pointer (some ⟨M, 1, none⟩))), (23, .eq (.slice za5 n5 zc5)), (25, .eq (.pointer (some ⟨S, 2, none⟩))), (26, .eq (.slice la4 m lc4)), (27, .eq (.pointer (some ⟨M, 2, none⟩))), (28, .eq (.slice la5 m5 lc5)), (30, .eq (.pointer (some ⟨S, 1, none⟩)))]) (by kernel_rfl) ?hat (of_decide_eq_true (by kernel_rfl)) (by kernel_rfl) (kkS_mono _) K4.out ?steps ?hend
  case hat =>
    intro j hj
    simp only [List.mem_cons, List.not_mem_nil, or_false] at hj
    rcases hj with rfl | rfl
    · exact ⟨_, rfl, rfl⟩
    · exact ⟨_, rfl, rfl⟩
  case steps =>
    refine stepsK_n 20 rfl (by kernel_rfl) ?_ ?_
    · intro TT D' w lq R hk hF K hK0
      have hK := Lib.hid hK0
      have q9 : TT[9]?.getD undef = .pointer (some ⟨S, 0, none⟩) := hF.old 9 (by kernel_rfl)
      have hk := Lib.hid hk
      clear hK0 hF
      go_simp
      exact hK.out _ _ _ hk.out (fun _ hp => hp) rfl
    refine stepsK_n 21 rfl (by kernel_rfl) ?_ ?_
    · intro TT D' w lq R hk hF K hK0
      have hK := Lib.hid hK0
      have q20 : TT[20]?.getD undef = .pointer (some ⟨S, 1, none⟩) := hF.on 0 (by kernel_rfl) (by kernel_rfl) rfl rfl
      have c : _ := row4 (hk.atM (hF.sub _ (List.mem_cons_of_mem _ (List.mem_cons_self ..))))
      obtain ⟨c0, c1, c2, c3⟩ := c
      have hk := Lib.hid hk
      clear hK0 hF
      go_simp
      exact hK.out _ _ _ hk.out (fun _ hp => hp) rfl
    refine stepsK_n 22 rfl (by kernel_rfl) ?_ ?_
    · intro TT D' w lq R hk hF K hK0
      have hK := Lib.hid hK0
      have q10 : TT[10]?.getD undef = .pointer (some ⟨M, 0, none⟩) := hF.old 10 (by kernel_rfl)
      have hk := Lib.hid hk
      clear hK0 hF
      go_simp
      exact hK.out _ _ _ hk.out (fun _ hp => hp) rfl
    refine stepsK_n 23 rfl (by kernel_rfl) ?_ ?_
    · intro TT D' w lq R hk hF K hK0
      have hK := Lib.hid hK0
      have q22 : TT[22]?.getD undef = .pointer (some ⟨M, 1, none⟩) := hF.on 2 (by kernel_rfl) (by kernel_rfl) rfl rfl
      have c : _ := row4 (hk.atM (hF.sub _ (List.mem_cons_self ..)))
      obtain ⟨c0, c1, c2, c3⟩ := c
      have hk := Lib.hid hk
      clear hK0 hF
      go_simp
      exact hK.out _ _ _ hk.out (fun _ hp => hp) rfl
    refine stepsK_j _ rfl ?_ ?_
    · intro TT D' w lq R hk hF K hK0
      have hK := Lib.hid hK0
      have q1 : TT[21]?.getD undef = .slice za3 p zc3 := hF.on 1 (by kernel_rfl) (by kernel_rfl) rfl rfl
      have q2 : TT[23]?.getD undef = .slice za5 n5 zc5 := hF.on 3 (by kernel_rfl) (by kernel_rfl) rfl rfl
      exact job_append_flat (.tmp 21) (.tmp 23) rfl rfl Tryd.underlying23 hzz hz0 hz1 hz2 rfl (by decide) (by decide) hk _ ((zos Zn).flatMap zcells) (.slice za5 n5 zc5) (HA2.out _ _ _ (fun x hx => hF.sub _ (List.mem_cons_of_mem _ (List.mem_cons_of_mem _ (List.mem_cons_of_mem _ (List.mem_cons_of_mem _ (List.mem_append_right _ hx)))))) hk) one_zones HNz.out (by omega) (eval_tmp q1) (eval_tmp q2) (fun v' w' hk' => hK.out v' w' hk')
    refine stepsK_n 25 rfl (by kernel_rfl) ?_ ?_
    · intro TT D' w lq R hk hF K hK0
      have hK := Lib.hid hK0
      have q9 : TT[9]?.getD undef = .pointer (some ⟨S, 0, none⟩) := hF.old 9 (by kernel_rfl)
      have hk := Lib.hid hk
      clear hK0 hF
      go_simp
      exact hK.out _ _ _ hk.out (fun _ hp => hp) rfl
    refine stepsK_n 26 rfl (by kernel_rfl) ?_ ?_
    · intro TT D' w lq R hk hF K hK0
      have hK := Lib.hid hK0
      have q25 : TT[25]?.getD undef = .pointer (some ⟨S, 2, none⟩) := hF.on 5 (by kernel_rfl) (by kernel_rfl) rfl rfl
      have c : _ := row4 (hk.atM (hF.sub _ (List.mem_cons_of_mem _ (List.mem_cons_self ..))))
      obtain ⟨c0, c1, c2, c3⟩ := c
      have hk := Lib.hid hk
      clear hK0 hF
      go_simp
      exact hK.out _ _ _ hk.out (fun _ hp => hp) rfl
    refine stepsK_n 27 rfl (by kernel_rfl) ?_ ?_
    · intro TT D' w lq R hk hF K hK0
      have hK := Lib.hid hK0
      have q10 : TT[10]?.getD undef = .pointer (some ⟨M, 0, none⟩) := hF.old 10 (by kernel_rfl)
      have hk := Lib.hid hk
      clear hK0 hF
      go_simp
      exact hK.out _ _ _ hk.out (fun _ hp => hp) rfl
    refine stepsK_n 28 rfl (by kernel_rfl) ?_ ?_
    · intro TT D' w lq R hk hF K hK0
      have hK := Lib.hid hK0
      have q27 : TT[27]?.getD undef = .pointer (some ⟨M, 2, none⟩) := hF.on 7 (by kernel_rfl) (by kernel_rfl) rfl rfl
      have c : _ := row4 (hk.atM (hF.sub _ (List.mem_cons_self ..)))
      obtain ⟨c0, c1, c2, c3⟩ := c
      have hk := Lib.hid hk
      clear hK0 hF
      go_simp
      exact hK.out _ _ _ hk.out (fun _ hp => hp) rfl
    refine stepsK_j _ rfl ?_ ?_
    · intro TT D' w lq R hk hF K hK0
      have hK := Lib.hid hK0
      have q1 : TT[26]?.getD undef = .slice la4 m lc4 := hF.on 6 (by kernel_rfl) (by kernel_rfl) rfl rfl
      have q2 : TT[28]?.getD undef = .slice la5 m5 lc5 := hF.on 8 (by kernel_rfl) (by kernel_rfl) rfl rfl
      exact job_append_flat (.tmp 26) (.tmp 28) rfl rfl Tryd.underlying24 hlz hl0 hl1 hl2 rfl (by decide) (by decide) hk _ (L5.flatMap kcells) (.slice la5 m5 lc5) (HA1.out _ _ _ (fun x hx => hF.sub _ (List.mem_cons_of_mem _ (List.mem_cons_of_mem _ (List.mem_cons_of_mem _ (List.mem_cons_of_mem _ (List.mem_append_left _ hx)))))) hk) one_links HNl.out (by omega) (eval_tmp q1) (eval_tmp q2) (fun v' w' hk' => hK.out v' w' hk')
    refine stepsK_n 30 rfl (by kernel_rfl) ?_ ?_
    · intro TT D' w lq R hk hF K hK0
      have hK := Lib.hid hK0
      have q9 : TT[9]?.getD undef = .pointer (some ⟨S, 0, none⟩) := hF.old 9 (by kernel_rfl)
      have hk := Lib.hid hk
      clear hK0 hF
      go_simp
      exact hK.out _ _ _ hk.out (fun _ hp => hp) rfl
    exact stepsK_nil
  case hend =>
    intro TT w lq hsz hk hsub hold hS
    obtain ⟨G, hG⟩ : ∃ G : Nat → Value, ∀ t, TT[t]?.getD undef = G t := ⟨_, fun _ => rfl⟩
    have hk2 := hk
    simp only [List.map_cons, List.map_nil, Job.row, hG, List.cons_append, List.nil_append] at hk2
    have KM := hk2.sub K4.out hsub
    obtain ⟨ga, gc, e24⟩ := own_slice (KM.row 0 rfl)
    obtain ⟨gb, gd, e29⟩ := own_slice (KM.row 1 rfl)
    dsimp only at e24 e29
    rw [e24, e29] at KM
    have KN := Lib.hid KM
    have e' := tmps_mix [20, 21, 22, 23, 24, 25, 26, 27, 28, 29, 30] (by kernel_rfl) hsz hold
    simp only [List.foldl_cons, List.foldl_nil, hG, List.setIfInBounds_toArray, List.set_cons_zero, List.set_cons_succ] at e'
    have e30 : G 30 = .pointer (some ⟨S, 1, none⟩) := by
      have := (show KK.S (.eq (.pointer (some ⟨S, 1, none⟩))) lq (TT[30]?.getD undef) none from hS 10 _ 30 rfl rfl (by kernel_rfl))
      rw [hG] at this
      exact this
    rw [e', e24, e29, e30]
    clear e' e24 e29 e30 hold hS hG hsz hk hk2 hsub KM
    obtain ⟨y0, y1, y2, y3⟩ := row4 (KN.out.at 1 rfl)
    have y4 := free_at (KN.out.at 1 rfl) 1
    have y5 := free_at (KN.out.at 1 rfl) 2
    simp only [List.drop_succ_cons, List.drop_zero, TailWp]
    go_simp
    have K9 := Lib.hid ((KN.out.set 1 rfl 1 (.slice ga (p + n5) gc) rfl).set 1 rfl 2 (.slice gb (m + m5) gd) rfl)
    clear y0 y1 y2 y3 y4 y5 KN K4 HA1 HA2
    obtain ⟨w9, hw9⟩ : ∃ X, (w.setCell ⟨S, 1, none⟩ (.slice ga (p + n5) gc)).setCell ⟨S, 2, none⟩ (.slice gb (m + m5) gd) = X := ⟨_, rfl⟩
    rw [hw9] at K9
    try rw [hw9]
    clear hw9
    obtain ⟨TJ, hTJ⟩ : ∃ x, joinT T n5 t = x := ⟨_, rfl⟩
    obtain ⟨LJ, hLJ⟩ : ∃ x, joinL p m Ln k5 n5 m5 To = x := ⟨_, rfl⟩
    have HJ := Lib.hid (show Joined D TJ LJ (p + n5) (m + m5) from hTJ ▸ hLJ ▸ join_plain hD HZ.out hp1 hp3 hm4 hn51 hn56 hm512)
    have HPS := Lib.hid (show ∃ Q, SrcP w9 (.slice ra D.length rc) (.slice ga (p + n5) gc) (.slice gb (m + m5) gd) (.slice none 0 0) D TJ Q LJ [] ∧ w9.ownsRow W.heap.size 40 2 (.slice ga (p + n5) gc) Q.length (Q.flatMap zcells) ∧ w9.ownsRow W.heap.size 43 2 (.slice gb (m + m5) gd) LJ.length (LJ.flatMap kcells) from by
      have hzt := zt_copy (R := [_, _, _]) K9.out HZ.out.zq HZ.out.same
      have hzl : (E.map Prod.snd ++ zos Zn).length = p + n5 := by
        unfold zos
        rw [List.length_append, List.length_map, List.length_map, HZ.out.len.2, HZn.out.2]
      have hz : w9.ownsRow W.heap.size 40 2 (.slice ga (p + n5) gc) (E.map Prod.snd ++ zos Zn).length ((E.map Prod.snd ++ zos Zn).flatMap zcells) := by
        rw [hzl, List.flatMap_append]
        exact K9.out.row 0 rfl
      have hl : w9.ownsRow W.heap.size 43 2 (.slice gb (m + m5) gd) LJ.length (LJ.flatMap kcells) := by
        rw [HJ.out.ll, ← hLJ]
        unfold joinL
        rw [List.flatMap_append, HL5.out]
        exact K9.out.row 1 rfl
      refine ⟨E.map Prod.snd ++ zos Zn, srcP_own (K9.out.row 2 rfl) hz hl (World.ownsRow_nil _ _ _ _) ?_ (fun o ho => ?_) HJ.out.small, hz, hl⟩
      · rw [← hTJ]
        unfold joinT
        rw [HZn.out.1]
        exact zt_join hzt Zn
      · rcases List.mem_append.1 ho with ho | ho
        · exact eras_nil2 (R := [_, _, _]) K9.out o ho
        · obtain ⟨x, _, rfl⟩ := List.mem_map.1 ho
          intro n c hc
          simp only [zo1, Value.slice.injEq] at hc
          exact hc.2.2.symm)
    obtain ⟨nT, hnT⟩ : ∃ k, p + n5 = k := ⟨_, rfl⟩
    obtain ⟨nL, hnL⟩ : ∃ k, m + m5 = k := ⟨_, rfl⟩
    rw [hnT, hnL] at K9 HPS HJ
    have HnT := Lib.hid (show 1 ≤ nT ∧ nT ≤ 9 ∧ nL ≤ 16 by omega)
    clear hnT hnL
    obtain ⟨Q9, hp9, _, _⟩ := HPS.out
    have HP9 := Lib.hid hp9
    clear hp9 HPS HZ HL5 HZn HL5l
    obtain ⟨CT, hCT⟩ := stb_ex TJ
    obtain ⟨CL, hCL⟩ := stb_ex LJ
    have hFi := HJ.out.fine
    have hTp := stb_to_perm hCT
    have hLp := stb_to_perm hCL
    have HCT := Lib.hid hCT
    have HCL := Lib.hid hCL
    have HFi := Lib.hid hFi
    have HF := Lib.hid HJ.out.few
    have HSm := Lib.hid HJ.out.small
    have HLn := Lib.hid (show CT.length = nT ∧ CL.length = nL from ⟨by rw [hTp.length_eq]; exact HJ.out.tl, by rw [hLp.length_eq]; exact HJ.out.ll⟩)
    have HTl := Lib.hid HJ.out.tl
    clear hCT hCL hFi hTp hLp hD
    have K3 := Lib.hid (K9.out.pick (M := [(S, .cells #[.slice ra D.length rc, .slice ga (nT) gc, .slice gb (nL) gd, .slice none 0 0] 27), (W.heap.size + 1, .cells #[.int .u8 (z : Int), .int .u8 (l : Int), .slice ta tn tc, .int .u8 (t : Int)] 56), (W.heap.size, .cells #[.slice sa vn sc, .slice za zn0 zc, .slice la ln0 lc] 54)]) (.cons _ (.cons_cons _ (.cons_cons _ (.cons_cons _ (List.nil_sublist _))))))
    clear K9
    have hzv := SlV.allA HP9.out.src.zo (by rw [HP9.out.zt.len, HTl.out]; have := HnT.out.1; omega)
    rw [HP9.out.zt.len, HTl.out] at hzv
    obtain ⟨gz, go, gc', e1, hgc1, hgc2, _, _⟩ := hzv
    simp only [Value.slice.injEq] at e1
    obtain ⟨rfl, _, rfl⟩ := e1
    unfold maxLen at hgc2
    have HQl := Lib.hid (show Q9.length = nT by rw [HP9.out.zt.len, HTl.out])
    obtain ⟨y0, y1, y2, y3⟩ := row4 (K3.out.at 0 rfl)
    go_upto_region 5 with (first | (go_at_call 17; refine (sortW HP9.out HF.out HSm.out HCT.out HCL.out).mono ?_; rintro e X4 ⟨v4, rfl, ⟨ra4, za4, la9, sa4, rc4, zc4, lc9, sc4, Q4, ev, hp4⟩, hb4⟩; subst ev; have K4 := Lib.hid ((K3.out.keep hb4).allocAt X4.heap.size rfl (.cells #[.slice ra4 D.length rc4, .slice za4 (CT).length zc4, .slice la9 (CL).length lc9, .slice sa4 0 sc4] 27)); have B4 := Lib.hid (hb4.alloc (by have := hb4.size; omega) (.cells #[.slice ra4 D.length rc4, .slice za4 (CT).length zc4, .slice la9 (CL).length lc9, .slice sa4 0 sc4] 27)); have HP4 := Lib.hid (hp4.keep ((Below.refl _ X4).alloc (Nat.le_refl _) (.cells #[.slice ra4 D.length rc4, .slice za4 (CT).length zc4, .slice la9 (CL).length lc9, .slice sa4 0 sc4] 27))); clear hb4 hp4))
    obtain ⟨p4, hp4⟩ : ∃ p, X4.heap.size = p := ⟨_, rfl⟩
    obtain ⟨w4, hw4⟩ : ∃ X, X4.alloc (.cells #[.slice ra4 D.length rc4, .slice za4 (CT).length zc4, .slice la9 (CL).length lc9, .slice sa4 0 sc4] 27) = X := ⟨_, rfl⟩
    rw [hw4] at K4 B4 HP4 ⊢
    rw [hp4] at K4 ⊢
    clear hw4 hp4 y0 y1 y2 y3 K3
    replace HP9 := Lib.hid (HP9.out.keep B4.out)
    clear B4
    rw [HLn.out.1, HLn.out.2] at K4 HP4
    have HB4 := Lib.hid K4.out.below
    have HS4 := Lib.hid (fun (Y : World) (hB : Below w4.heap.size w4 Y) => row4 ((K4.out.keep hB).at 1 rfl))
    have HT4 := Lib.hid (fun (Y : World) (hB : Below w4.heap.size w4 Y) => row4 ((K4.out.keep hB).at 0 rfl))
    have CZ := Lib.hid (fun (Y : World) (hB : Below w4.heap.size w4 Y) => zones_ordered Q4 (.slice za4 nT zc4) Y ((HP4.out.keep hB).src.zo) (fun i x y hx hy => by
      have e := HP4.out.zt.1
      have ex : (CT.map Prod.fst)[i]? = some x.1 := by rw [e, List.getElem?_map, hx]; rfl
      have ey : (CT.map Prod.fst)[i + 1]? = some y.1 := by rw [e, List.getElem?_map, hy]; rfl
      rw [List.getElem?_map] at ex ey
      cases h1 : CT[i]? with
      | none => rw [h1] at ex; cases ex
      | some a =>
        cases h2 : CT[i + 1]? with
        | none => rw [h2] at ey; cases ey
        | some b =>
          rw [h1] at ex
          rw [h2] at ey
          simp only [Option.map_some, Option.some.injEq] at ex ey
          rw [← ex, ← ey]
          exact stb_order HCT.out i a b h1 h2) (by rw [HP4.out.zt.len, HLn.out.1]; have := HnT.out; omega))
    have CLk := Lib.hid (fun (Y : World) (hB : Below w4.heap.size w4 Y) => links_ordered CL (.slice la9 nL lc9) Y ((HP4.out.keep hB).src.lk) (stb_order HCL.out) (by rw [HLn.out.2]; have := HnT.out; omega))
    have K5 := Lib.hid (Kp.start w4)
    obtain ⟨x0, x1, x2, x3⟩ := HS4.out _ K5.out.below
    obtain ⟨y0, y1, y2, y3⟩ := HT4.out _ K5.out.below
    clear K4
    go_upto_region 8 with (first
      | (go_at_call 22; refine (CZ.out _ K5.out.below).mono ?_; rintro e X5 ⟨rfl, hb⟩; have K6 := Lib.hid (K5.out.keep hb); obtain ⟨x0, x1, x2, x3⟩ := HS4.out _ K6.out.below; obtain ⟨y0, y1, y2, y3⟩ := HT4.out _ K6.out.below; clear hb)
      | (go_at_call 25; refine (CLk.out _ K6.out.below).mono ?_; rintro e X6 ⟨rfl, hb⟩; have K7 := Lib.hid (K6.out.keep hb); obtain ⟨x0, x1, x2, x3⟩ := HS4.out _ K7.out.below; obtain ⟨y0, y1, y2, y3⟩ := HT4.out _ K7.out.below; clear hb))
    have K8 := Lib.hid (K7.out.allocAt X6.heap.size rfl (.cells #[.slice ra D.length rc, .slice (some ⟨gz, go, none⟩) nT gc, .slice gb nL gd, .slice none 0 0] 27))
    obtain ⟨Y8, hY8⟩ : ∃ Y, X6.alloc (.cells #[.slice ra D.length rc, .slice (some ⟨gz, go, none⟩) nT gc, .slice gb nL gd, .slice none 0 0] 27) = Y := ⟨_, rfl⟩
    rw [hY8] at K8 ⊢
    obtain ⟨Tb, hTb⟩ : ∃ b, X6.heap.size = b := ⟨_, rfl⟩
    rw [hTb] at K8 ⊢
    clear hY8 hTb x0 x1 x2 x3 y0 y1 y2 y3 K7 K6 K5 CZ CLk
    have hn1 := HnT.out.1
    have hn9 := HnT.out.2.1
    have hn16 := HnT.out.2.2
    obtain ⟨kz, hkz⟩ : ∃ i, by1 % nT = i := ⟨_, rfl⟩
    have hkzn : kz < nT := by rw [← hkz]; exact Nat.mod_lt _ (by omega)
    have hkT : (by1 : Int).tmod (nT : Int) = (kz : Int) := by rw [← hkz, Int.tmod_eq_emod_of_nonneg (by omega)]; simp
    have hkI : (by1 : Int) % (nT : Int) = (kz : Int) := by rw [← hkz]; simp
    have hkW : IntKind.i64.wrap (kz : Int) = (kz : Int) := IntWalk.i64_in _ (by omega)
    have hbyW : IntKind.i64.wrap (by1 : Int) = (by1 : Int) := IntWalk.i64_in _ (by omega)
    have hnT0 : ¬ (nT : Int) = 0 := by omega
    have hnT00 : ¬ nT = 0 := by omega
    clear hkz
    obtain ⟨x0, x1, x2, x3⟩ := HS4.out _ K8.out.below
    go_upto_region 9 with fail
    clear x0 x1 x2 x3
    have hkmN : kz ≤ nT := by omega
    have hck : ¬ gc = kz := by omega
    have hkcN : kz ≤ gc := by omega
    have hk0 : (0 : Int) ≤ (kz : Int) := by omega
    have hkm2 : (kz : Int) ≤ (nT : Int) := by omega
    have hkc : (kz : Int) ≤ (gc : Int) := by omega
    have HZV := Lib.hid (fun (Y : World) (hB : Below w4.heap.size w4 Y) => (show SlV Y (.slice (some ⟨gz, go, none⟩) nT gc) 2 nT (Q9.flatMap zcells) by
      have h := (HP9.out.keep hB).src.zo
      unfold ZoV at h
      rw [HQl.out] at h
      exact h))
    have HV1 := Lib.hid (fun (Y : World) (hB : Below w4.heap.size w4 Y) => rows_part zcells (fun _ => rfl) (HZV.out Y hB) HQl.out hkmN (Nat.le_refl nT) (show 0 < nT by omega))
    have HV2 := Lib.hid (fun (Y : World) (hB : Below w4.heap.size w4 Y) => rows_part zcells (fun _ => rfl) (HZV.out Y hB) HQl.out (Nat.zero_le kz) hkmN (show 0 < nT by omega))
    have HD := Lib.hid (show (Q9.drop kz).length = nT - kz by rw [List.length_drop, HQl.out])
    have HRk := Lib.hid (show (Q9.drop kz).length + (Q9.take kz).length = nT by rw [List.length_drop, List.length_take, HQl.out]; omega)
    have HRo := Lib.hid (show (Q9.drop kz).flatMap zcells ++ (Q9.take kz).flatMap zcells = (rot kz Q9).flatMap zcells by rw [← List.flatMap_append]; rfl)
    go_cut [69] from 69 to 79 (fun _ wx => ∃ (az3 : Option Addr) (cz3 : Nat), Kp [(Tb, .cells #[.slice ra D.length rc, .slice az3 nT cz3, .slice gb nL gd, .slice none 0 0] 27)] [⟨.slice az3 nT cz3, 40, 2, nT, (rot kz Q9).flatMap zcells⟩] w4 wx)
    case first =>
      have KD := Lib.hid K8.out.drew
      obtain ⟨x0, x1, x2, x3⟩ := HS4.out _ KD.out.below
      obtain ⟨y0, y1, y2, y3⟩ := row4 (KD.out.at 0 rfl)
      go_region_law
        (first
        | (go_simp; go_at_call 11; refine (clone_zones (Q9.drop kz) _ _ (by have h := HV1.out _ KD.out.below; rw [List.take_of_length_le (by rw [HD.out]; exact Nat.le_refl _)] at h; simpa [HD.out] using h) (by intro c h; simp at h) (by rw [HD.out]; omega)).mono ?_; rintro e X ⟨v', rfl, hkx⟩; have KX := Lib.hid (KD.out.adopt hkx); obtain ⟨x0, x1, x2, x3⟩ := HS4.out _ KX.out.below; obtain ⟨z0, z1, z2, z3⟩ := row4 (KX.out.at 0 rfl); clear hkx)
        | (obtain ⟨va, wa, hra, hka⟩ := append_zones KX.out (Q9.take kz) (.slice (some ⟨gz, go, none⟩) kz gc) (by have h := HV2.out X KX.out.below; simpa using h) (by intro c h; simp at h) (by rw [HRk.out]; omega); rw [HRk.out, HRo.out] at hka; obtain ⟨a6, c6, rfl⟩ : ∃ a c, va = .slice a nT c := own_slice (hka.row 0 rfl); refine step_append_eq (by rfl) (.tmp 73) (.tmp 77) 23 (by rfl) _ _ _ wa (by rfl) (by rfl) hra ?_; have KA := Lib.hid hka; obtain ⟨b0, b1, b2, b3⟩ := row4 (KA.out.at 0 rfl); have b4 := free_at (KA.out.at 0 rfl) 1; clear hra hka))
      all_goals
        (try go_wp2_with fail)
        go_meet
        exact ⟨a6, c6, KA.out.set 0 rfl 1 (.slice a6 nT c6) rfl⟩
    case rest =>
      obtain ⟨az3, cz3, hk⟩ := hcut
      have KZ := Lib.hid hk
      clear hk K8 HV1 HV2 HD HRk HRo hck hkcN hk0 hkm2 hkc HZV
      obtain ⟨x0, x1, x2, x3⟩ := HS4.out _ KZ.out.below
      have HLV := Lib.hid (fun (Y : World) (hB : Below w4.heap.size w4 Y) => (show SlV Y (.slice gb nL gd) 2 nL (LJ.flatMap kcells) by
        have h := (HP9.out.keep hB).src.lk
        unfold LkV at h
        rw [HJ.out.ll] at h
        exact h))
      go_upto_if 84 with fail
      clear x0 x1 x2 x3
      go_cut [15] from 84 to 99 (fun _ wx => ∃ (al3 : Option Addr) (cl3 : Nat) (LT : List (List UInt8 × List UInt8)), LT.Perm LJ ∧ (∀ n c, (.slice al3 nL cl3 : Value) = .slice none n c → c = 0) ∧ SlV wx (.slice al3 nL cl3) 2 nL (LT.flatMap kcells) ∧ Kp [(Tb, .cells #[.slice ra D.length rc, .slice az3 nT cz3, .slice al3 nL cl3, .slice none 0 0] 27)] [⟨.slice az3 nT cz3, 40, 2, nT, (rot kz Q9).flatMap zcells⟩] w4 wx)
      case first =>
        by_cases hL0 : nL = 0
        · subst hL0
          go_wp2_with fail
          go_meet
          exact ⟨gb, gd, LJ, List.Perm.refl _, HP9.out.kn, HLV.out _ KZ.out.below, KZ.out⟩
        · have hL1 : 0 < nL := by omega
          obtain ⟨gl, gm, gd', e1, hgl1, hgl2, _, _⟩ := (HLV.out _ KZ.out.below).allA hL1
          simp only [Value.slice.injEq] at e1
          obtain ⟨rfl, _, rfl⟩ := e1
          unfold maxLen at hgl2
          obtain ⟨kb, hkb⟩ : ∃ i, ot % nL = i := ⟨_, rfl⟩
          have hkbn : kb < nL := by rw [← hkb]; exact Nat.mod_lt _ (by omega)
          have hkbT : (ot : Int).tmod (nL : Int) = (kb : Int) := by rw [← hkb, Int.tmod_eq_emod_of_nonneg (by omega)]; simp
          have hkbI : (ot : Int) % (nL : Int) = (kb : Int) := by rw [← hkb]; simp
          have hkbW : IntKind.i64.wrap (kb : Int) = (kb : Int) := IntWalk.i64_in _ (by omega)
          have hotW : IntKind.i64.wrap (ot : Int) = (ot : Int) := IntWalk.i64_in _ (by omega)
          have hnL0 : ¬ (nL : Int) = 0 := by omega
          clear hkb
          go_upto_region 13 with fail
          have hlmN : kb ≤ nL := by omega
          have hck2 : ¬ gd = kb := by omega
          have hkcN2 : kb ≤ gd := by omega
          have hk02 : (0 : Int) ≤ (kb : Int) := by omega
          have hkm22 : (kb : Int) ≤ (nL : Int) := by omega
          have hkc2 : (kb : Int) ≤ (gd : Int) := by omega
          have HLl := Lib.hid HJ.out.ll
          have HV1 := Lib.hid (fun (Y : World) (hB : Below w4.heap.size w4 Y) => rows_part kcells (fun _ => rfl) (HLV.out Y hB) HLl.out hlmN (Nat.le_refl nL) hL1)
          have HV2 := Lib.hid (fun (Y : World) (hB : Below w4.heap.size w4 Y) => rows_part kcells (fun _ => rfl) (HLV.out Y hB) HLl.out (Nat.zero_le kb) hlmN hL1)
          have HD := Lib.hid (show (LJ.drop kb).length = nL - kb by rw [List.length_drop, HLl.out])
          have HRk := Lib.hid (show (LJ.drop kb).length + (LJ.take kb).length = nL by rw [List.length_drop, List.length_take, HLl.out]; omega)
          have HRo := Lib.hid (show (LJ.drop kb).flatMap kcells ++ (LJ.take kb).flatMap kcells = (rot kb LJ).flatMap kcells by rw [← List.flatMap_append]; rfl)
          have KD := Lib.hid KZ.out.drew
          obtain ⟨x0, x1, x2, x3⟩ := HS4.out _ KD.out.below
          obtain ⟨y0, y1, y2, y3⟩ := row4 (KD.out.at 0 rfl)
          go_region_law
            (first
            | (go_simp; go_at_call 12; refine (clone_links (LJ.drop kb) _ _ (by have h := HV1.out _ KD.out.below; rw [List.take_of_length_le (by rw [HD.out]; exact Nat.le_refl _)] at h; simpa [HD.out] using h) (by intro c h; simp at h) (by rw [HD.out]; omega)).mono ?_; rintro e X ⟨v', rfl, hkx⟩; have KX := Lib.hid (KD.out.adopt hkx); obtain ⟨x0, x1, x2, x3⟩ := HS4.out _ KX.out.below; obtain ⟨z0, z1, z2, z3⟩ := row4 (KX.out.at 0 rfl); clear hkx)
            | (obtain ⟨va, wa, hra, hka⟩ := append_links KX.out (LJ.take kb) (.slice (some ⟨gl, gm, none⟩) kb gd) (by have h := HV2.out X KX.out.below; simpa using h) (by intro c h; simp at h) (by rw [HRk.out]; omega); rw [HRk.out, HRo.out] at hka; obtain ⟨a7, c7, rfl⟩ : ∃ a c, va = .slice a nL c := own_slice (hka.row 0 rfl); refine step_append_eq (by rfl) (.tmp 93) (.tmp 97) 24 (by rfl) _ _ _ wa (by rfl) (by rfl) hra ?_; have KA := Lib.hid hka; obtain ⟨b0, b1, b2, b3⟩ := row4 (KA.out.at 0 rfl); have b4 := free_at (KA.out.at 0 rfl) 2; clear hra hka))
          all_goals
            have KB := Lib.hid (KA.out.set 0 rfl 2 (.slice a7 nL c7) rfl)
            (try go_wp2_with fail)
            go_meet
            exact ⟨a7, c7, rot kb LJ, rot_perm _ _, own_nil2 (KB.out.row 0 rfl), SlV.of_own (KB.out.row 0 rfl), KB.out.less (List.sublist_cons_self _ _)⟩
      case rest =>
        obtain ⟨al3, cl3, LT, hLp, hLn, hLs, hk⟩ := hcut
        have KT := Lib.hid hk
        have hRp : (rot kz TJ).Perm TJ := rot_perm _ _
        have hRq : (rot kz Q9).Perm Q9 := rot_perm _ _
        have hRl : (rot kz Q9).length = nT := by rw [hRq.length_eq]; exact HQl.out
        have hLl : LT.length = nL := by rw [hLp.length_eq]; exact HJ.out.ll
        have HPt := Lib.hid (show SrcP wc (.slice ra D.length rc) (.slice az3 nT cz3) (.slice al3 nL cl3) (.slice none 0 0) D (rot kz TJ) (rot kz Q9) LT [] from by
          have hp := HP9.out.keep KT.out.below
          have hz := SlV.of_own (KT.out.row 0 rfl)
          refine ⟨hp.ru, ⟨by unfold ZoV; rw [hRl]; exact hz, by unfold LkV; rw [hLl]; exact hLs, fun z hz => hp.src.zn z (hRq.mem_iff.1 hz), fun p hp' => hp.src.ln p (hLp.mem_iff.1 hp')⟩, hp.sh, zt_rot hp.zt kz, fun o ho => hp.er o (hRq.mem_iff.1 ho), hp.rn, hLn, hp.hn⟩)
        have HFt := Lib.hid (show Few D (rot kz TJ) LT [] from ⟨HF.out.d, by rw [hRp.length_eq]; exact HF.out.t, by rw [hLp.length_eq]; exact HF.out.l, HF.out.s, fun p hp => HF.out.e p (hRp.mem_iff.1 hp)⟩)
        have HSt := Lib.hid (show SmallN (rot kz TJ) LT from ⟨fun p hp => HSm.out.t p (hRp.mem_iff.1 hp), fun p hp => HSm.out.l p (hLp.mem_iff.1 hp)⟩)
        have HCt := Lib.hid (stb_any HCT.out HFi.out.zn hRp)
        have HCl := Lib.hid (stb_any HCL.out HFi.out.ln hLp)
        clear hk hRp hRq hRl hLl hLp hLn hLs KZ HLV
        go_upto_region 14 with fail
        refine wp_region_steps (by kernel_rfl) (koS [.eq (.agg #[.slice ra D.length rc, .slice az3 nT cz3, .slice al3 nL cl3, .slice none 0 0]), .src D CT CL [], .eq (.agg #[.slice ra4 D.length rc4, .slice za4 nT zc4, .slice la9 nL lc9, .slice sa4 0 sc4]), .eq (.bool true), .eq (.bool true), .eq (.bool true), .eq (.bool true)] 100 8) (by kernel_rfl) (guardsK_ok (t := [104]) (by kernel_rfl) (fun d hd => by
          simp only [List.mem_cons, List.not_mem_nil, or_false] at hd
          subst hd
          exact ⟨by decide, rfl⟩)) (fun d w w' v h hB => koS_keep h hB) ?steps2 ?hend2
        case steps2 =>
          refine steps_cons 100 rfl ?_ ?_
          · intro T D' w hB0 hold hdep K hK0
            have hK := Lib.hid hK0
            have h12 : T[12]?.getD undef = .pointer (some ⟨Tb, 0, none⟩) := hold 12 rfl
            clear hold hdep hK0
            obtain ⟨c0, c1, c2, c3⟩ := row4 ((KT.out.keep hB0).at 0 rfl)
            go_simp
            exact hK.out _ _ (Below.refl _ _) rfl
          refine steps_cons 101 rfl ?_ ?_
          · intro T D' w hB0 hold hdep K hK0
            have hK := Lib.hid hK0
            have q100 : T[100]?.getD undef = .agg #[.slice ra D.length rc, .slice az3 nT cz3, .slice al3 nL cl3, .slice none 0 0] := dep hdep 0 (by kernel_rfl) rfl rfl
            clear hold hdep hK0
            go_simp
            refine (sortW (HPt.out.keep hB0) HFt.out HSt.out HCt.out HCl.out).mono ?_
            rintro _ V ⟨v, rfl, hs, hb⟩
            exact hK.out _ _ hb hs.A
          refine steps_cons 102 rfl ?_ ?_
          · intro T D' w hB0 hold hdep K hK0
            have hK := Lib.hid hK0
            have h11 : T[11]?.getD undef = .pointer (some ⟨p4, 0, none⟩) := hold 11 rfl
            clear hold hdep hK0
            obtain ⟨c0, c1, c2, c3⟩ := HT4.out _ (KT.out.keep hB0).below
            go_simp
            exact hK.out _ _ (Below.refl _ _) rfl
          refine steps_cons 103 rfl ?_ ?_
          · intro T D' w hB0 hold hdep K hK0
            have hK := Lib.hid hK0
            have q101 : Ko.S (.src D CT CL []) w (T[101]?.getD undef) := dep hdep 1 (by kernel_rfl) rfl rfl
            have q102 : T[102]?.getD undef = .agg #[.slice ra4 D.length rc4, .slice za4 nT zc4, .slice la9 nL lc9, .slice sa4 0 sc4] := dep hdep 2 (by kernel_rfl) rfl rfl
            clear hold hdep hK0
            have H1 := Lib.hid q101
            clear q101
            go_simp
            refine (same_A H1.out (HP4.out.keep (KT.out.keep hB0).below).A).mono ?_
            rintro _ V ⟨rfl, hb⟩
            exact hK.out _ _ hb rfl
          refine steps_cons 104 rfl ?_ ?_
          · intro T D' w hB0 hold hdep K hK0
            have hK := Lib.hid hK0
            have q103 : T[103]?.getD undef = .bool true := dep hdep 3 (by kernel_rfl) rfl rfl
            clear hold hdep hK0
            go_simp
            exact hK.out _ _ (Below.refl _ _) rfl
          refine steps_cons 105 rfl ?_ ?_
          · intro T D' w hB0 hold hdep K hK0
            have hK := Lib.hid hK0
            clear hold hdep hK0
            go_simp
            refine (works35_any w).mono ?_
            rintro _ V ⟨rfl, hb⟩
            exact hK.out _ _ hb rfl
          refine steps_cons 106 rfl ?_ ?_
          · intro T D' w hB0 hold hdep K hK0
            have hK := Lib.hid hK0
            have q104 : T[104]?.getD undef = .bool true := dep hdep 4 (by kernel_rfl) rfl rfl
            have q105 : T[105]?.getD undef = .bool true := dep hdep 5 (by kernel_rfl) rfl rfl
            clear hold hdep hK0
            go_simp
            exact hK.out _ _ (Below.refl _ _) rfl
          refine steps_cons 8 rfl ?_ ?_
          · intro T D' w hB0 hold hdep K hK0
            have hK := Lib.hid hK0
            have q106 : T[106]?.getD undef = .bool true := dep hdep 6 (by kernel_rfl) rfl rfl
            clear hold hdep hK0
            go_simp
            exact hK.out _ _ (Below.refl _ _) rfl
          exact steps_nil
        case hend2 =>
          intro T' w hsz hB0 hold hS
          have e2 : T'[8]?.getD undef = .bool true := hS 8 (by rfl)
          have K10 := Lib.hid (KT.out.keep hB0)
          obtain ⟨G2, hG2⟩ : ∃ G : Nat → Value, ∀ t, T'[t]?.getD undef = G t := ⟨_, fun _ => rfl⟩
          have e := tmps_lit T' 107 hsz
          simp only [hG2] at e
          have e' : T' = #[G2 0, G2 1, G2 2, G2 3, G2 4, G2 5, G2 6, G2 7, G2 8, G2 9, G2 10, G2 11, G2 12, G2 13, G2 14, G2 15, G2 16, G2 17, G2 18, G2 19, G2 20, G2 21, G2 22, G2 23, G2 24, G2 25, G2 26, G2 27, G2 28, G2 29, G2 30, G2 31, G2 32, G2 33, G2 34, G2 35, G2 36, G2 37, G2 38, G2 39, G2 40, G2 41, G2 42, G2 43, G2 44, G2 45, G2 46, G2 47, G2 48, G2 49, G2 50, G2 51, G2 52, G2 53, G2 54, G2 55, G2 56, G2 57, G2 58, G2 59, G2 60, G2 61, G2 62, G2 63, G2 64, G2 65, G2 66, G2 67, G2 68, G2 69, G2 70, G2 71, G2 72, G2 73, G2 74, G2 75, G2 76, G2 77, G2 78, G2 79, G2 80, G2 81, G2 82, G2 83, G2 84, G2 85, G2 86, G2 87, G2 88, G2 89, G2 90, G2 91, G2 92, G2 93, G2 94, G2 95, G2 96, G2 97, G2 98, G2 99, G2 100, G2 101, G2 102, G2 103, G2 104, G2 105, G2 106] := e.trans rfl
          rw [hG2] at e2
          clear hold hS e hG2 hsz hB0
          rw [e', e2]
          clear e' e2
          go_wp2_with fail
          go_ret
          exact ⟨rfl, HB4.out.trans (K10.out.below.mono HB4.out.size)⟩
end Go.Proofs.YtnffecoohkanhaaDoor.Px
