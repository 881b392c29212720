/- The reference's place (chapter 35). The reference's Sort (chapter 35). -/
import Derived.Test.YtnffecoohkanhaaDoorM22
import Derived.Test.YtnffecoohkanhaaDoorYFtC
import Derived.Deep.QuietTactic
import Derived.BigQuiet
import Derived.Test.YtnffecoohkanhaaDoorYFtJ
import Derived.Test.YtnffecoohkanhaaDoorYFLnX
namespace Go.Proofs.YtnffecoohkanhaaDoor.Px
open Go.RowKit
open Go.Maps (Keyed)
open Lk St

set_option maxHeartbeats 8000000 in
set_option maxRecDepth 100000 in
theorem place_any (L : List (List UInt8)) (i : Nat) (va : Value) (W : World) (hA : SlV W va 1 L.length (L.map svv)) (hi : i < L.length) (hmax : L.length ≤ 1000000) :
    Calls Tryd.prog 42 #[va, .int .i64 (i : Int)] W fun e w' => e = .returned (.int .i64 (plL L i : Int)) ∧ ∃ q, w' = W.drewN q := by
  have mixed : Tryd.prog.follows Departure.mixedOrders = true := by kernel_rfl
  obtain ⟨b, o, c, rfl, hc1, hc2, hb, hcell⟩ := hA.allA (by omega)
  unfold maxLen at hc2
  obtain ⟨x, hx⟩ : ∃ x, L.getD i [] = x := ⟨_, rfl⟩
  have hxi : L[i]? = some x := by rw [← hx, List.getD, List.getElem?_eq_getElem hi]; rfl
  have hx1 := hcell i (.string (bs x)) (by rw [List.getElem?_map, hxi]; rfl)
  have hpl : plL L i = cntL L i L.length x := by unfold plL; rw [hx]
  rw [hpl]
  obtain ⟨n, hn⟩ : ∃ n, L.length = n := ⟨_, rfl⟩
  rw [hn] at hi hc1 hmax ⊢
  have HN := Lib.hid hn
  have HC := Lib.hid hcell
  obtain ⟨t, ht⟩ : ∃ t, bs x = t := ⟨_, rfl⟩
  rw [ht] at hx1
  have HT := Lib.hid ht
  have HX1 := Lib.hid hx1
  have hcz := cnt_zero L i x
  have hcn : ∀ k, cntL L i k x ≤ 2 * k := fun k => by
    unfold cntL
    have h1 := List.countP_le_length (p := fun y => decide (y < x)) (l := L.take k)
    have h2 := List.countP_le_length (p := fun y => decide (y = x)) (l := L.take (min k i))
    rw [List.length_take] at h1 h2
    omega
  have HCZ := Lib.hid hcz
  have HCN := Lib.hid hcn
  clear hA hcell hx hxi hx1 hpl hn ht hcz hcn
  go_enter Tryd.func42, Tryd.ntmps42
  go_wp2_with fail
  go_loopw [5, 6] (fun n5 i6 wr => ∃ k : Nat, k ≤ n ∧ i6 = .int .i64 (k : Int) ∧ n5 = .int .i64 (cntL L i k x : Int) ∧ ∃ q, wr = W.drewN q) (fun _ i6 _ => n - (intOf i6).toNat)
  case atStart => exact ⟨0, by omega, rfl, by rw [HCZ.out]; rfl, 0, rfl⟩
  case round =>
    obtain ⟨k, hk', rfl, rfl, qd, rfl⟩ := hrel
    have hbw : b < (W.drewN qd).heap.size := hb
    by_cases hlt : k < n
    · obtain ⟨y, hy⟩ : ∃ y, L[k]? = some y := ⟨_, List.getElem?_eq_getElem (by rw [HN.out]; exact hlt)⟩
      have k0 : W.cell? ⟨b, o + k, none⟩ = some (.string (bs y)) := HC.out k (.string (bs y)) (by rw [List.getElem?_map, hy]; rfl)
      have k1 := HX1.out
      have HST := Lib.hid (cnt_step (i := i) (x := x) hy)
      obtain ⟨s, hs⟩ : ∃ s, bs y = s := ⟨_, rfl⟩
      rw [hs] at k0
      have hls := less_of hs HT.out
      have hse : s = t ↔ y = x := by
        rw [← hs, ← HT.out]
        constructor
        · intro e
          have e := congrArg (fun z : ByteArray => z.data.toList) e
          exact e
        · intro e
          rw [e]
      obtain ⟨cn, hcn⟩ : ∃ m, cntL L i k x = m := ⟨_, rfl⟩
      have hcb := HCN.out k
      rw [hcn] at HST hcb ⊢
      clear hcn hy hs
      by_cases h1 : y < x
      · rw [decide_eq_true h1] at hls
        have HS2 := Lib.hid (show cntL L i (k + 1) x = cn + 1 by rw [HST.out, if_pos (.inl h1)])
        clear h1 hse
        go_upto_region 5 with fail
        go_quiet (fail)
        go_wp2_with fail
        go_roundw
        case rel => exact ⟨k + 1, by omega, by go_num, by rw [HS2.out]; go_num, ⟨_, rfl⟩⟩
        case measure => simp [intOf]; omega
      · rw [decide_eq_false h1] at hls
        by_cases h2 : y = x
        · obtain rfl : s = t := hse.2 h2
          by_cases h3 : k < i
          · have HS2 := Lib.hid (show cntL L i (k + 1) x = cn + 1 by rw [HST.out, if_pos (.inr ⟨h2, h3⟩)])
            have h3i : (k : Int) < (i : Int) := by omega
            clear h1 h2 hse
            go_upto_region 5 with fail
            go_quiet (fail)
            go_wp2_with fail
            go_roundw
            case rel => exact ⟨k + 1, by omega, by go_num, by rw [HS2.out]; go_num, ⟨_, rfl⟩⟩
            case measure => simp [intOf]; omega
          · have HS2 := Lib.hid (show cntL L i (k + 1) x = cn by rw [HST.out, if_neg (fun q => q.elim h1 (fun q => h3 q.2))])
            have h3i : ¬ (k : Int) < (i : Int) := by omega
            clear h1 h2 hse
            go_upto_region 5 with fail
            go_quiet (fail)
            go_wp2_with fail
            go_roundw
            case rel => exact ⟨k + 1, by omega, by go_num, by rw [HS2.out], ⟨_, rfl⟩⟩
            case measure => simp [intOf]; omega
        · have hst : ¬ s = t := fun e => h2 (hse.1 e)
          have hst3 : (s.toList == t.toList) = false := by
            rw [beq_eq_false_iff_ne]
            exact fun e => hst (ba_eq e)
          clear hst
          have HS2 := Lib.hid (show cntL L i (k + 1) x = cn by rw [HST.out, if_neg (fun q => q.elim h1 (fun q => h2 q.1))])
          clear h1 h2 hse
          go_upto_region 5 with fail
          go_quiet (fail)
          go_wp2_with fail
          go_roundw
          case rel => exact ⟨k + 1, by omega, by go_num, by rw [HS2.out], ⟨_, rfl⟩⟩
          case measure => simp [intOf]; omega
    · obtain rfl : k = n := by omega
      go_wp2_with fail
      exact bodyPost_ret (v := .int .i64 (cntL L i k x : Int)) (by simp [results, Tryd.results42, go_sem]) rfl ⟨rfl, qd, rfl⟩
end Go.Proofs.YtnffecoohkanhaaDoor.Px
namespace Go.Proofs.YtnffecoohkanhaaDoor.Px
open Go.RowKit
open Go.Maps (Keyed)
open Lk St

theorem flat_set2 {α : Type} (f : α → List Value) (hf : ∀ x, (f x).length = 2) : ∀ (L : List α) (p : Nat) (x : α) (a b : Value), f x = [a, b] → ((L.flatMap f).set (p * 2) a).set (p * 2 + 1) b = (L.set p x).flatMap f
  | [], _, _, _, _, _ => rfl
  | y :: r, p, x, a, b, hx => by
    obtain ⟨c, d, hy⟩ : ∃ c d, f y = [c, d] := by
      have := hf y
      match f y, this with
      | [c, d], _ => exact ⟨c, d, rfl⟩
    match p with
    | 0 =>
      rw [List.set_cons_zero, List.flatMap_cons, List.flatMap_cons, hx, hy]
      rfl
    | p + 1 =>
      rw [List.set_cons_succ, List.flatMap_cons, List.flatMap_cons, hy, ← flat_set2 f hf r p x a b hx]
      rw [show (p + 1) * 2 = p * 2 + 1 + 1 by omega]
      rfl
theorem Kp.two_rowsF {L : List (Nat × Obj)} {R : List Rw} {r s : Rw} {w X : World} (h : Kp L (r :: s :: R) w X) : Kp L [r, s] w X := h.less (List.Sublist.cons_cons _ (List.Sublist.cons_cons _ (List.nil_sublist _)))
theorem infoStrF : (Tryd.prog.info? 9).map (fun i => (i.zero, i.size, i.bytes)) = some (some (.string ⟨#[]⟩), 1, 16) := by kernel_rfl
set_option maxHeartbeats 8000000 in
set_option maxRecDepth 100000 in
theorem rsort_any (rv zv lv sv : Value) (Q : List Zo) (Ls : List (List UInt8 × List UInt8)) (W : World) (hsrc : SrcV W zv lv Q Ls) (h3 : Ls.length ≤ 1000) (h5 : Q.length ≤ 1000) (hr1 : ∃ a n c, rv = .slice a n c) (hs1 : ∃ a n c, sv = .slice a n c) :
    Calls Tryd.prog 18 #[.agg #[rv, zv, lv, sv]] W fun e w' => ∃ zv2 lv2 CZ CL, e = .returned (.agg #[rv, zv2, lv2, sv]) ∧ Stb (rkN Q) Q CZ ∧ Stb (rkN Ls) Ls CL ∧
      Kp [] [⟨lv2, 43, 2, Ls.length, CL.flatMap kcells⟩, ⟨zv2, 40, 2, Q.length, CZ.flatMap zcells⟩] W w' := by
  obtain ⟨ra, nr, rc, rfl⟩ := hr1
  obtain ⟨sa, ns, sc, rfl⟩ := hs1
  obtain ⟨CZ, hCZ⟩ := stb_ex Q
  obtain ⟨CL, hCL⟩ := stb_ex Ls
  obtain ⟨za, zc, rfl, hz1, hz2⟩ := SlV.slA hsrc.zo
  obtain ⟨la, lc, rfl, hl1, hl2⟩ := SlV.slA hsrc.lk
  have hallz := fun h0 => SlV.allA hsrc.zo h0
  have halll := fun h0 => SlV.allA hsrc.lk h0
  obtain ⟨nq, hnq⟩ : ∃ n, Q.length = n := ⟨_, rfl⟩
  obtain ⟨nl, hnl⟩ : ∃ n, Ls.length = n := ⟨_, rfl⟩
  rw [hnq] at hallz hz1 h5
  rw [hnl] at halll hl1 h3
  unfold maxLen at hz2 hl2
  rw [hnq, hnl]
  have HNq := Lib.hid hnq
  have HNl := Lib.hid hnl
  have HAz := Lib.hid hallz
  have HAl := Lib.hid halll
  have HCZ := Lib.hid hCZ
  have HCL := Lib.hid hCL
  obtain ⟨i0, hi, hz0, hz1', hz2'⟩ := info_partsU infoStrF
  have K0 := Lib.hid ((((Kp.start W).allocAt W.heap.size rfl (.cells #[.slice ra nr rc, .slice za nq zc, .slice la nl lc, .slice sa ns sc] 27)).allocAt (W.heap.size + 1) (by simp) (.cells #[.slice none 0 0, .slice none 0 0, .slice none 0 0, .slice none 0 0] 27)).allocAt (W.heap.size + 2) (by simp) (.cells #[.slice ra nr rc, .slice za nq zc, .slice la nl lc, .slice sa ns sc] 27))
  clear hsrc hallz halll hnq hnl hCZ hCL
  go_enter Tryd.func18, Tryd.ntmps18
  go_upto_region 3 with fail
  obtain ⟨W1, hW1⟩ : ∃ X, ((W.alloc (.cells #[.slice ra nr rc, .slice za nq zc, .slice la nl lc, .slice sa ns sc] 27)).alloc (.cells #[.slice none 0 0, .slice none 0 0, .slice none 0 0, .slice none 0 0] 27)).alloc (.cells #[.slice ra nr rc, .slice za nq zc, .slice la nl lc, .slice sa ns sc] 27) = X := ⟨_, rfl⟩
  have e2 : W.heap.size + 1 + 1 = W.heap.size + 2 := rfl
  rw [hW1] at K0 ⊢
  clear hW1
  go_wp2_with fail
  go_loopw [4, 6] (fun v wi wr => ∃ i : Nat, i ≤ nq ∧ wi = .int .i64 (i : Int) ∧ Kp [(W.heap.size + 2, .cells #[.slice ra nr rc, .slice za nq zc, .slice la nl lc, .slice sa ns sc] 27 (0, 0)), (W.heap.size + 1, .cells #[.slice none 0 0, .slice none 0 0, .slice none 0 0, .slice none 0 0] 27 (0, 0)), (W.heap.size, .cells #[.slice ra nr rc, .slice za nq zc, .slice la nl lc, .slice sa ns sc] 27 (0, 0))] [⟨v, 9, 1, i, ((znames Q).take i).map svv⟩] W wr) (fun _ wi _ => nq - (intOf wi).toNat)
  case atStart => exact ⟨0, by omega, rfl, K0.out.fresh 9 1⟩
  case round =>
    obtain ⟨i, hi', rfl, hk⟩ := hrel
    obtain ⟨a3, d3, e3⟩ := own_slice (hk.row 0 rfl)
    dsimp only at e3
    subst e3
    have HK := Lib.hid hk
    clear hk K0
    obtain ⟨u0, u1, u2, u3⟩ := row4 (HK.out.at 2 rfl)
    by_cases hlt : i < nq
    · obtain ⟨b, o, c1, e1, _, _, hb, hcell⟩ := HAz.out (by omega)
      simp only [Value.slice.injEq] at e1
      obtain ⟨rfl, _, rfl⟩ := e1
      obtain ⟨x, hx⟩ : ∃ x, Q[i]? = some x := ⟨_, List.getElem?_eq_getElem (by rw [HNq.out]; exact hlt)⟩
      have k0 := (HK.out.below.cell (p := ⟨b, o + (i * 2), none⟩) hb).trans (hcell _ _ (zo_at Q hx).1)

      have hbw := Nat.lt_of_lt_of_le hb HK.out.below.size
      have HTk := Lib.hid (show ((znames Q).take (i + 1)).map svv = ((znames Q).take i).map svv ++ [.string (bs x.1)] by
        have hx2 : (znames Q)[i]? = some x.1 := by unfold znames; rw [List.getElem?_map, hx]; rfl
        rw [List.take_add_one, hx2, List.map_append]; rfl)
      obtain ⟨s, hs⟩ : ∃ s, bs x.1 = s := ⟨_, rfl⟩
      rw [hs] at k0 HTk
      have K1 := Lib.hid (HK.out.allocAt wr.heap.size rfl (.cells #[.string s] 9))
      clear hx hcell hs
      go_wp2_with (first
        | (at_builtin; refine wpList_append_own_at _ rfl (.tmp 18) (.tmp 25) 25 rfl W.heap.size 9 i0 (.string ⟨#[]⟩) 1 16 Tryd.underlying25 hi hz0 hz1' hz2' rfl (by decide) _ i _ rfl (K1.out.row 0 rfl) ⟨wr.heap.size, 0, none⟩ 1 1 [.string s] rfl rfl ?c1 ?c2 ?c3 ?c4 ?c5 ?_; (case c1 => exact World.news_of_block (K1.out.at 0 rfl)); (case c2 => simp [Value.oneCell']); (case c3 => unfold maxLen; omega); (case c4 => omega); (case c5 => exact K1.out.below.size); intro v' w2 hown hgrow _ hat; obtain ⟨a5, c5, rfl⟩ : ∃ a c, v' = .slice a (i + 1) c := own_slice hown; have K2 := Lib.hid (K1.out.append hown hgrow hat).drop; clear hown hgrow hat)
        | go_in)
      go_roundw
      case rel =>
        refine ⟨i + 1, by omega, by go_num, ?_⟩
        rw [HTk.out]
        exact K2.out
      case measure => simp [intOf]; omega
    · obtain rfl : nq = i := by omega
      have K3 := HK
      rw [List.take_of_length_le (by rw [znames_len, HNq.out]; exact Nat.le_refl _)] at K3
      clear HK
      go_wp2_with fail
      clear u0 u1 u2 u3
      go_loopw [5, 7] (fun v wi wr => ∃ i : Nat, i ≤ nl ∧ wi = .int .i64 (i : Int) ∧ Kp [(W.heap.size + 2, .cells #[.slice ra nr rc, .slice za nq zc, .slice la nl lc, .slice sa ns sc] 27 (0, 0)), (W.heap.size + 1, .cells #[.slice none 0 0, .slice none 0 0, .slice none 0 0, .slice none 0 0] 27 (0, 0)), (W.heap.size, .cells #[.slice ra nr rc, .slice za nq zc, .slice la nl lc, .slice sa ns sc] 27 (0, 0))] [⟨v, 9, 1, i, ((Lk.nm Ls).take i).map svv⟩, ⟨.slice a3 nq d3, 9, 1, nq, (znames Q).map svv⟩] W wr) (fun _ wi _ => nl - (intOf wi).toNat)
      case atStart => exact ⟨0, by omega, rfl, K3.out.fresh 9 1⟩
      case round =>
        obtain ⟨i, hi', rfl, hk⟩ := hrel
        obtain ⟨a4, d4, e3⟩ := own_slice (hk.row 0 rfl)
        dsimp only at e3
        subst e3
        have HK := Lib.hid hk
        clear hk K3
        obtain ⟨u0, u1, u2, u3⟩ := row4 (HK.out.at 2 rfl)
        by_cases hlt : i < nl
        · obtain ⟨b, o, c1, e1, _, _, hb, hcell⟩ := HAl.out (by omega)
          simp only [Value.slice.injEq] at e1
          obtain ⟨rfl, _, rfl⟩ := e1
          obtain ⟨x, hx⟩ : ∃ x, Ls[i]? = some x := ⟨_, List.getElem?_eq_getElem (by rw [HNl.out]; exact hlt)⟩
          have k0 := (HK.out.below.cell (p := ⟨b, o + (i * 2 + 1), none⟩) hb).trans (hcell _ _ (lk_at Ls hx).2)
          rw [← Nat.add_assoc] at k0
          have hbw := Nat.lt_of_lt_of_le hb HK.out.below.size
          have HTk := Lib.hid (show ((Lk.nm Ls).take (i + 1)).map svv = ((Lk.nm Ls).take i).map svv ++ [.string (bs x.1)] by
            have hx2 : (Lk.nm Ls)[i]? = some x.1 := by unfold Lk.nm; rw [List.getElem?_map, hx]; rfl
            rw [List.take_add_one, hx2, List.map_append]; rfl)
          obtain ⟨s, hs⟩ : ∃ s, bs x.1 = s := ⟨_, rfl⟩
          rw [hs] at k0 HTk
          have K1 := Lib.hid (HK.out.allocAt wr.heap.size rfl (.cells #[.string s] 9))
          clear hx hcell hs
          go_wp2_with (first
            | (at_builtin; refine wpList_append_own_at _ rfl (.tmp 34) (.tmp 41) 25 rfl W.heap.size 9 i0 (.string ⟨#[]⟩) 1 16 Tryd.underlying25 hi hz0 hz1' hz2' rfl (by decide) _ i _ rfl (K1.out.row 0 rfl) ⟨wr.heap.size, 0, none⟩ 1 1 [.string s] rfl rfl ?c1 ?c2 ?c3 ?c4 ?c5 ?_; (case c1 => exact World.news_of_block (K1.out.at 0 rfl)); (case c2 => simp [Value.oneCell']); (case c3 => unfold maxLen; omega); (case c4 => omega); (case c5 => exact K1.out.below.size); intro v' w2 hown hgrow _ hat; obtain ⟨a5, c5, rfl⟩ : ∃ a c, v' = .slice a (i + 1) c := own_slice hown; have K2 := Lib.hid (K1.out.append hown hgrow hat).drop; clear hown hgrow hat)
            | go_in)
          go_roundw
          case rel =>
            refine ⟨i + 1, by omega, by go_num, ?_⟩
            rw [HTk.out]
            exact K2.out
          case measure => simp [intOf]; omega
        · obtain rfl : nl = i := by omega
          have K4 := HK
          rw [List.take_of_length_le (by rw [Lk.nm_len, HNl.out]; exact Nat.le_refl _)] at K4
          clear HK
          obtain ⟨iz, hiz, hzz, hzs, hzb⟩ := info_partsU infoZn
          obtain ⟨il, hil, hlz, hls, hlb⟩ := info_partsU infoLn
          have hmkz : ∀ w : World, _ := fun w => make_rows (Pr := Tryd.prog) 23 40 iz _ Tryd.underlying23 hiz hzz (by omega) nq (by omega) w
          have hmkl : ∀ w : World, _ := fun w => make_rows (Pr := Tryd.prog) 24 43 il _ Tryd.underlying24 hil hlz (by omega) nl (by omega) w
          rw [hzs] at hmkz
          rw [hls] at hmkl
          go_upto_region 11 with fail
          clear u0 u1 u2 u3
          obtain ⟨x0, x1, x2, x3⟩ := row4 (K4.out.at 0 rfl)
          obtain ⟨u0, u1, u2, u3⟩ := row4 (K4.out.at 2 rfl)
          have x4 := free_at (K4.out.at 0 rfl) 1
          have w0 := K4.out.lt 0 rfl
          go_upto_region 12 with fail
          have hz0 : (madeCells #[.string ⟨#[]⟩, .slice none 0 0] (nq * 2)).toList = (List.replicate nq (([], (none, 0, 0)) : Zo)).flatMap zcells := made_flat zcells (([], (none, 0, 0)) : Zo) #[.string ⟨#[]⟩, .slice none 0 0] rfl nq
          have K5 := ((K4.out.set 0 rfl 1 (.slice (some ⟨wr.heap.size, 0, none⟩) nq nq) rfl).allocAt wr.heap.size (by simp) (.cells (madeCells #[.string ⟨#[]⟩, .slice none 0 0] (nq * 2)) 40)).own_block 2 nq nq (Nat.le_refl _) (by unfold maxLen; omega) (by rw [size_madeCells])
          rw [hz0, List.take_of_length_le (by rw [flat_len zcells 2 (fun _ => rfl), List.length_replicate]; exact Nat.le_refl _)] at K5
          obtain ⟨gz, hgz⟩ : ∃ g, wr.heap.size = g := ⟨_, rfl⟩
          rw [hgz] at K5 ⊢
          have K5 := Lib.hid K5
          obtain ⟨Y5, hY5⟩ : ∃ Y, (wr.setCell ⟨W.heap.size + 2, 1, none⟩ (.slice (some ⟨gz, 0, none⟩) nq nq)).alloc (.cells (madeCells #[.string ⟨#[]⟩, .slice none 0 0] (nq * 2)) 40) = Y := ⟨_, rfl⟩
          rw [hY5] at K5
          first | rw [hY5] | rw [show W.heap.size + 1 + 1 = W.heap.size + 2 from rfl, hY5]
          clear hY5 hgz hz0 K4 x0 x1 x2 x3 x4 w0 u0 u1 u2 u3
          go_wp2_with fail
          go_loopw [8] (fun wi wr => ∃ (i : Nat) (M : List (Zo)), i ≤ nq ∧ wi = .int .i64 (i : Int) ∧ Filled Q CZ M i ∧ Kp [(W.heap.size + 2, .cells #[.slice ra nr rc, .slice (some ⟨gz, 0, none⟩) nq nq, .slice la nl lc, .slice sa ns sc] 27 (0, 0)), (W.heap.size + 1, .cells #[.slice none 0 0, .slice none 0 0, .slice none 0 0, .slice none 0 0] 27 (0, 0)), (W.heap.size, .cells #[.slice ra nr rc, .slice za nq zc, .slice la nl lc, .slice sa ns sc] 27 (0, 0))] [⟨.slice (some ⟨gz, 0, none⟩) nq nq, 40, 2, nq, M.flatMap zcells⟩, ⟨.slice a4 nl d4, 9, 1, nl, (Lk.nm Ls).map svv⟩, ⟨.slice a3 nq d3, 9, 1, nq, (znames Q).map svv⟩] W wr) (fun wi _ => nq - (intOf wi).toNat)
          case atStart => exact ⟨0, _, by omega, rfl, ⟨by rw [List.length_replicate, HCZ.out.len, HNq.out], fun k hk => by omega⟩, K5.out⟩
          case round =>
            obtain ⟨i, M, hi', rfl, hfill, hk⟩ := hrel
            have HK := Lib.hid hk
            have HF := Lib.hid hfill
            clear hk hfill K5
            obtain ⟨x0, x1', x2', x3'⟩ := row4 (HK.out.at 0 rfl)
            obtain ⟨u0, u1, u2, u3⟩ := row4 (HK.out.at 2 rfl)
            by_cases hlt : i < nq
            · obtain ⟨b, o, c1, e1, _, _, hb, hcell⟩ := HAz.out (by omega)
              simp only [Value.slice.injEq] at e1
              obtain ⟨rfl, _, rfl⟩ := e1
              obtain ⟨x, hx⟩ : ∃ x, Q[i]? = some x := ⟨_, List.getElem?_eq_getElem (by rw [HNq.out]; exact hlt)⟩
              obtain ⟨hstep, hp⟩ := HF.out.step HCZ.out hx
              have CP := Lib.hid (fun (Y : World) (hB : Below wr.heap.size wr Y) => place_any (znames Q) i (.slice a3 nq d3) Y (show SlV Y (.slice a3 nq d3) 1 (znames Q).length _ by rw [znames_len, HNq.out]; exact (SlV.of_own (HK.out.row 2 rfl)).keep hB) (by rw [znames_len, HNq.out]; exact hlt) (by rw [znames_len, HNq.out]; omega))
              rw [show plL (Q.map Prod.fst) i = plL (znames Q) i from rfl] at hstep hp
              obtain ⟨p, hpp⟩ : ∃ p, plL (znames Q) i = p := ⟨_, rfl⟩
              rw [hpp] at hstep hp CP
              rw [HNq.out] at hp
              obtain ⟨x1, ea, en, ec⟩ := x
              obtain ⟨kk0, kk1⟩ := zo_at Q hx
              have k0 := (HK.out.below.cell (p := ⟨b, o + i * 2, none⟩) hb).trans (hcell _ _ kk0)
              have k1 := (HK.out.below.cell (p := ⟨b, o + (i * 2 + 1), none⟩) hb).trans (hcell _ _ kk1)
              rw [← Nat.add_assoc] at k1
              dsimp only at k0 k1
              have hbw := Nat.lt_of_lt_of_le hb HK.out.below.size
              have hMl : M.length = nq := by rw [HF.out.1, HCZ.out.len, HNq.out]
              obtain ⟨y, hy⟩ : ∃ y, M[p]? = some y := ⟨_, List.getElem?_eq_getElem (by rw [hMl]; exact hp)⟩
              obtain ⟨m0, m1⟩ := zo_at M hy
              have c0 : wr.cell? ⟨gz, p * 2, none⟩ = some _ := own_cell (HK.out.row 0 rfl) m0
              have c1 := own_cell (HK.out.row 0 rfl) m1
              have f0 := HK.out.free (show 0 < nq by omega) (p * 2)
              have f1 := HK.out.free (show 0 < nq by omega) (p * 2 + 1)
              obtain ⟨s, hs⟩ : ∃ s, bs x1 = s := ⟨_, rfl⟩
              rw [hs] at k0
              have HS := Lib.hid (flat_set2 zcells (fun _ => rfl) M p (x1, ea, en, ec) (.string s) (.slice ea en ec) (by rw [← hs]; rfl))
              have HF2 := Lib.hid hstep
              have hp0 : (0 : Int) ≤ (p : Int) := by omega
              have hpi : (p : Int) < (nq : Int) := by omega
              have hx0 := HK.out.lt 0 rfl
              have hx2 := HK.out.lt 2 rfl
              clear hx hstep hpp hcell kk0 kk1 hMl hy m0 m1 hs
              go_upto_region 15 with fail
              go_region_law
                (first
                  | (go_simp; go_at_call 42; refine (CP.out _ (by first | exact bdrew wr | exact below_drewN (Below.refl _ _) _ | exact Below.refl _ _)).mono ?_; rintro e X ⟨rfl, qd, rfl⟩))
              all_goals
                go_wp2_with fail
                go_roundw
                case rel =>
                  refine ⟨i + 1, _, by omega, by go_num, HF2.out, ?_⟩
                  rw [← HS.out]
                  exact ((HK.out.keep (below_drewN (Below.refl _ wr) _)).put (show 0 < nq by omega) _ _).put (show 0 < nq by omega) _ _
                case measure => simp [intOf]; omega
            · obtain rfl : nq = i := by omega
              have hM := (show Filled Q CZ M Q.length by rw [HNq.out]; exact HF.out).all HCZ.out |>.symm
              subst hM
              clear x0 x1' x2' x3' HF
              go_upto_region 16 with fail
              clear u0 u1 u2 u3
              obtain ⟨x0, x1, x2, x3⟩ := row4 (HK.out.at 0 rfl)
              obtain ⟨u0, u1, u2, u3⟩ := row4 (HK.out.at 2 rfl)
              have x4 := free_at (HK.out.at 0 rfl) 2
              have w0 := HK.out.lt 0 rfl
              go_upto_region 17 with fail
              have hz0 : (madeCells #[.string ⟨#[]⟩, .string ⟨#[]⟩] (nl * 2)).toList = (List.replicate nl (([], []) : List UInt8 × List UInt8)).flatMap kcells := made_flat kcells (([], []) : List UInt8 × List UInt8) #[.string ⟨#[]⟩, .string ⟨#[]⟩] rfl nl
              have K8 := ((HK.out.set 0 rfl 2 (.slice (some ⟨wr.heap.size, 0, none⟩) nl nl) rfl).allocAt wr.heap.size (by simp) (.cells (madeCells #[.string ⟨#[]⟩, .string ⟨#[]⟩] (nl * 2)) 43)).own_block 2 nl nl (Nat.le_refl _) (by unfold maxLen; omega) (by rw [size_madeCells])
              rw [hz0, List.take_of_length_le (by rw [flat_len kcells 2 (fun _ => rfl), List.length_replicate]; exact Nat.le_refl _)] at K8
              obtain ⟨gl, hgl⟩ : ∃ g, wr.heap.size = g := ⟨_, rfl⟩
              rw [hgl] at K8 ⊢
              have K8 := Lib.hid K8
              obtain ⟨Y5, hY5⟩ : ∃ Y, (wr.setCell ⟨W.heap.size + 2, 2, none⟩ (.slice (some ⟨gl, 0, none⟩) nl nl)).alloc (.cells (madeCells #[.string ⟨#[]⟩, .string ⟨#[]⟩] (nl * 2)) 43) = Y := ⟨_, rfl⟩
              rw [hY5] at K8
              first | rw [hY5] | rw [show W.heap.size + 1 + 1 = W.heap.size + 2 from rfl, hY5]
              clear hY5 hgl hz0 HK x0 x1 x2 x3 x4 w0 u0 u1 u2 u3
              go_wp2_with fail
              go_loopw [9] (fun wi wr => ∃ (i : Nat) (M : List (List UInt8 × List UInt8)), i ≤ nl ∧ wi = .int .i64 (i : Int) ∧ Filled Ls CL M i ∧ Kp [(W.heap.size + 2, .cells #[.slice ra nr rc, .slice (some ⟨gz, 0, none⟩) nq nq, .slice (some ⟨gl, 0, none⟩) nl nl, .slice sa ns sc] 27 (0, 0)), (W.heap.size + 1, .cells #[.slice none 0 0, .slice none 0 0, .slice none 0 0, .slice none 0 0] 27 (0, 0)), (W.heap.size, .cells #[.slice ra nr rc, .slice za nq zc, .slice la nl lc, .slice sa ns sc] 27 (0, 0))] [⟨.slice (some ⟨gl, 0, none⟩) nl nl, 43, 2, nl, M.flatMap kcells⟩, ⟨.slice (some ⟨gz, 0, none⟩) nq nq, 40, 2, nq, CZ.flatMap zcells⟩, ⟨.slice a4 nl d4, 9, 1, nl, (Lk.nm Ls).map svv⟩, ⟨.slice a3 nq d3, 9, 1, nq, (znames Q).map svv⟩] W wr) (fun wi _ => nl - (intOf wi).toNat)
              case atStart => exact ⟨0, _, by omega, rfl, ⟨by rw [List.length_replicate, HCL.out.len, HNl.out], fun k hk => by omega⟩, K8.out⟩
              case round =>
                obtain ⟨i, M, hi', rfl, hfill, hk⟩ := hrel
                have HK := Lib.hid hk
                have HF := Lib.hid hfill
                clear hk hfill K8
                obtain ⟨x0, x1', x2', x3'⟩ := row4 (HK.out.at 0 rfl)
                obtain ⟨u0, u1, u2, u3⟩ := row4 (HK.out.at 2 rfl)
                by_cases hlt : i < nl
                · obtain ⟨b, o, c1, e1, _, _, hb, hcell⟩ := HAl.out (by omega)
                  simp only [Value.slice.injEq] at e1
                  obtain ⟨rfl, _, rfl⟩ := e1
                  obtain ⟨x, hx⟩ : ∃ x, Ls[i]? = some x := ⟨_, List.getElem?_eq_getElem (by rw [HNl.out]; exact hlt)⟩
                  obtain ⟨hstep, hp⟩ := HF.out.step HCL.out hx
                  have CP := Lib.hid (fun (Y : World) (hB : Below wr.heap.size wr Y) => place_any (Lk.nm Ls) i (.slice a4 nl d4) Y (show SlV Y (.slice a4 nl d4) 1 (Lk.nm Ls).length _ by rw [Lk.nm_len, HNl.out]; exact (SlV.of_own (HK.out.row 2 rfl)).keep hB) (by rw [Lk.nm_len, HNl.out]; exact hlt) (by rw [Lk.nm_len, HNl.out]; omega))
                  rw [show plL (Ls.map Prod.fst) i = plL (Lk.nm Ls) i from rfl] at hstep hp
                  obtain ⟨p, hpp⟩ : ∃ p, plL (Lk.nm Ls) i = p := ⟨_, rfl⟩
                  rw [hpp] at hstep hp CP
                  rw [HNl.out] at hp
                  obtain ⟨x1, x2⟩ := x
                  obtain ⟨kk0, kk1⟩ := lk_at Ls hx
                  have k0 := (HK.out.below.cell (p := ⟨b, o + i * 2, none⟩) hb).trans (hcell _ _ kk0)
                  have k1 := (HK.out.below.cell (p := ⟨b, o + (i * 2 + 1), none⟩) hb).trans (hcell _ _ kk1)
                  rw [← Nat.add_assoc] at k1
                  dsimp only at k0 k1
                  have hbw := Nat.lt_of_lt_of_le hb HK.out.below.size
                  have hMl : M.length = nl := by rw [HF.out.1, HCL.out.len, HNl.out]
                  obtain ⟨y, hy⟩ : ∃ y, M[p]? = some y := ⟨_, List.getElem?_eq_getElem (by rw [hMl]; exact hp)⟩
                  obtain ⟨m0, m1⟩ := lk_at M hy
                  have c0 : wr.cell? ⟨gl, p * 2, none⟩ = some _ := own_cell (HK.out.row 0 rfl) m0
                  have c1 := own_cell (HK.out.row 0 rfl) m1
                  have f0 := HK.out.free (show 0 < nl by omega) (p * 2)
                  have f1 := HK.out.free (show 0 < nl by omega) (p * 2 + 1)
                  obtain ⟨s, hs⟩ : ∃ s, bs x1 = s := ⟨_, rfl⟩
                  obtain ⟨t, ht⟩ : ∃ s, bs x2 = s := ⟨_, rfl⟩
                  rw [ht] at k0
                  rw [hs] at k1
                  have HS := Lib.hid (flat_set2 kcells (fun _ => rfl) M p (x1, x2) (.string t) (.string s) (by rw [← hs, ← ht]; rfl))
                  have HF2 := Lib.hid hstep
                  have hp0 : (0 : Int) ≤ (p : Int) := by omega
                  have hpi : (p : Int) < (nl : Int) := by omega
                  have hx0 := HK.out.lt 0 rfl
                  have hx2 := HK.out.lt 2 rfl
                  clear hx hstep hpp hcell kk0 kk1 hMl hy m0 m1 hs ht
                  go_upto_region 20 with fail
                  go_region_law
                    (first
                      | (go_simp; go_at_call 42; refine (CP.out _ (by first | exact bdrew wr | exact below_drewN (Below.refl _ _) _ | exact Below.refl _ _)).mono ?_; rintro e X ⟨rfl, qd, rfl⟩))
                  all_goals
                    go_wp2_with fail
                    go_roundw
                    case rel =>
                      refine ⟨i + 1, _, by omega, by go_num, HF2.out, ?_⟩
                      rw [← HS.out]
                      exact ((HK.out.keep (below_drewN (Below.refl _ wr) _)).put (show 0 < nl by omega) _ _).put (show 0 < nl by omega) _ _
                    case measure => simp [intOf]; omega
                · obtain rfl : nl = i := by omega
                  have hM := (show Filled Ls CL M Ls.length by rw [HNl.out]; exact HF.out).all HCL.out |>.symm
                  subst hM
                  go_upto_region 21 with fail
                  obtain ⟨y0, y1, y2, y3⟩ := row4 (HK.out.at 1 rfl)
                  have f0 := free_at (HK.out.at 1 rfl) 0
                  have f1 := free_at (HK.out.at 1 rfl) 1
                  have f2 := free_at (HK.out.at 1 rfl) 2
                  have f3 := free_at (HK.out.at 1 rfl) 3
                  go_wp2_with fail
                  have KF := Lib.hid ((((HK.out.set 1 rfl 0 (.slice ra nr rc) rfl).set 1 rfl 1 (.slice (some ⟨gz, 0, none⟩) nq nq) rfl).set 1 rfl 2 (.slice (some ⟨gl, 0, none⟩) nl nl) rfl).set 1 rfl 3 (.slice sa ns sc) rfl)
                  obtain ⟨r0, r1, r2, r3⟩ := row4 (KF.out.at 1 rfl)
                  refine bodyPost_ret (v := .agg #[.slice ra nr rc, .slice (some ⟨gz, 0, none⟩) nq nq, .slice (some ⟨gl, 0, none⟩) nl nl, .slice sa ns sc]) (by simp [results, Tryd.results18, go_sem, r0, r1, r2, r3]) rfl ⟨_, _, _, _, rfl, HCZ.out, HCL.out, ?_⟩
                  exact (KF.out.pick (List.nil_sublist _)).two_rowsF
end Go.Proofs.YtnffecoohkanhaaDoor.Px
