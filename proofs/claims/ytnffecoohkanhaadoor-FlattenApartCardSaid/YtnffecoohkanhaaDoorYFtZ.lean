/- The reference's Links (chapter 35). -/
import Derived.Test.YtnffecoohkanhaaDoorYFtJ
import Derived.Test.YtnffecoohkanhaaDoorYLnS
import Derived.Test.YtnffecoohkanhaaDoorYFLnX
namespace Go.Proofs.YtnffecoohkanhaaDoor.Px
open Go.RowKit
open Go.Maps (Keyed)
open Lk Ld

set_option maxHeartbeats 8000000 in
set_option maxRecDepth 100000 in
theorem rlinks_no (rv zv lv sv : Value) (Q : List Zo) (Ls : List (List UInt8 × List UInt8)) (W : World) (hsrc : SrcV W zv lv Q Ls) (h3 : Ls.length ≤ 1000000) (h5 : Q.length ≤ 1000000) (er : Int) (he : (checkL (znames Q) Ls zoneOk).2 = er) (her : er ≠ 0) :
    Calls Tryd.prog 15 #[.agg #[rv, zv, lv, sv]] W fun e w' => e = .returned (.tuple #[.agg #[.slice none 0 0, .slice none 0 0, .slice none 0 0, .slice none 0 0], .int .i64 er]) ∧ Below W.heap.size W w' := by
  have CK := Lib.hid (fun (Y : World) (hB : Below W.heap.size W Y) => check_ref rv zv lv sv Q Ls Y (hsrc.keep hB) h5 h3)
  rw [he] at CK
  obtain ⟨pa, hpa⟩ : ∃ p, (checkL (znames Q) Ls zoneOk).1.1 = p := ⟨_, rfl⟩
  obtain ⟨pb, hpb⟩ : ∃ p, (checkL (znames Q) Ls zoneOk).1.2 = p := ⟨_, rfl⟩
  rw [hpa, hpb] at CK
  obtain ⟨za, zc, rfl, hz1, hz2⟩ := SlV.slA hsrc.zo
  obtain ⟨la, lc, rfl, hl1, hl2⟩ := SlV.slA hsrc.lk
  obtain ⟨nq, hnq⟩ : ∃ n, Q.length = n := ⟨_, rfl⟩
  obtain ⟨nl, hnl⟩ : ∃ n, Ls.length = n := ⟨_, rfl⟩
  rw [hnq, hnl] at CK
  rw [hnq, hnl]
  have K0 := Lib.hid (((Kp.start W).allocAt W.heap.size rfl (.cells #[rv, .slice za nq zc, .slice la nl lc, sv] 27)).allocAt (W.heap.size + 1) (by simp) (.cells #[.slice none 0 0, .slice none 0 0, .slice none 0 0, .slice none 0 0] 27))
  obtain ⟨W1, hW1⟩ : ∃ X, (W.alloc (.cells #[rv, .slice za nq zc, .slice la nl lc, sv] 27)).alloc (.cells #[.slice none 0 0, .slice none 0 0, .slice none 0 0, .slice none 0 0] 27) = X := ⟨_, rfl⟩
  rw [hW1] at K0
  obtain ⟨x0, x1, x2, x3⟩ := row4 (K0.out.at 1 rfl)
  clear hsrc hnq hnl he hpa hpb
  go_enter Tryd.func15, Tryd.ntmps15
  go_upto_region 1 with fail
  clear hW1
  go_wp2_with (first | (go_at_call 31; refine (CK.out _ K0.out.below).mono ?_; rintro e X ⟨rfl, hb⟩; have K1 := Lib.hid ((K0.out.keep hb).allocAt X.heap.size rfl (.cells #[.int .i64 pa, .int .i64 pb, .int .i64 0] 71)); obtain ⟨y0, y1, y2, y3⟩ := row4 (K1.out.at 1 rfl); have f0 := free_at (K1.out.at 1 rfl) 0; have f1 := free_at (K1.out.at 1 rfl) 1; have f2 := free_at (K1.out.at 1 rfl) 2; have f3 := free_at (K1.out.at 1 rfl) 3; clear hb))
  have KF := Lib.hid ((((K1.out.set 1 rfl 0 (.slice none 0 0) rfl).set 1 rfl 1 (.slice none 0 0) rfl).set 1 rfl 2 (.slice none 0 0) rfl).set 1 rfl 3 (.slice none 0 0) rfl)
  obtain ⟨r0, r1, r2, r3⟩ := row4 (KF.out.at 1 rfl)
  exact bodyPost_ret (v := .tuple #[.agg #[.slice none 0 0, .slice none 0 0, .slice none 0 0, .slice none 0 0], .int .i64 er]) (by simp [results, Tryd.results15, go_sem, r0, r1, r2, r3]) rfl ⟨rfl, KF.out.below⟩
theorem flat_at' {Zn : List (List UInt8)} {Ls : List (List UInt8 × List UInt8)} {i : Nat} {p : List UInt8 × List UInt8} (h : Ls[i]? = some p) : ((flatL Zn Ls).take (i + 1)).flatMap kcells = ((flatL Zn Ls).take i).flatMap kcells ++ [.string (bs (Zn.getD (findL Zn Ls p.1).1 [])), .string (bs p.1)] := by
  have e : (flatL Zn Ls)[i]? = some (p.1, Zn.getD (findL Zn Ls p.1).1 []) := by unfold flatL; rw [List.getElem?_map, h]; rfl
  rw [List.take_add_one, e]
  simp [kcells]
set_option maxHeartbeats 8000000 in
set_option maxRecDepth 100000 in
theorem rlinks_ok (rv zv lv sv : Value) (Q : List Zo) (Ls : List (List UInt8 × List UInt8)) (W : World) (hsrc : SrcV W zv lv Q Ls) (h3 : Ls.length ≤ 1000) (h5 : Q.length ≤ 1000) (hr1 : ∃ a n c, rv = .slice a n c) (hs1 : ∃ a n c, sv = .slice a n c) (hck : checkL (znames Q) Ls zoneOk = ((0, 0), 0)) :
    Calls Tryd.prog 15 #[.agg #[rv, zv, lv, sv]] W fun e w' => ∃ lv2, e = .returned (.tuple #[.agg #[rv, zv, lv2, sv], .int .i64 0]) ∧ Kp [] [⟨lv2, 43, 2, Ls.length, (flatL (znames Q) Ls).flatMap kcells⟩] W w' := by
  have CK := Lib.hid (fun (Y : World) (hB : Below W.heap.size W Y) => check_ref rv zv lv sv Q Ls Y (hsrc.keep hB) (by omega) (by omega))
  rw [hck] at CK
  have CF := Lib.hid (fun (p : List UInt8 × List UInt8) (Y : World) (hB : Below W.heap.size W Y) => find_ref rv zv lv sv Q Ls p.1 Y (hsrc.keep hB) (by omega) (by omega))
  have HCk := Lib.hid (show ∀ i, i < Ls.length → ∃ j, j < Q.length ∧ findL (znames Q) Ls (Ls.getD i ([], [])).1 = (j, 0) from fun i hi => by
    obtain ⟨j, hj, h⟩ := fine_find hck hi
    exact ⟨j, by unfold znames at hj; rw [List.length_map] at hj; exact hj, h⟩)
  obtain ⟨ra, nr, rc, rfl⟩ := hr1
  obtain ⟨sa, ns, sc, rfl⟩ := hs1
  obtain ⟨za, zc, rfl, hz1, hz2⟩ := SlV.slA hsrc.zo
  obtain ⟨la, lc, rfl, hl1, hl2⟩ := SlV.slA hsrc.lk
  have hallz := fun h0 => SlV.allA hsrc.zo h0
  have halll := fun h0 => SlV.allA hsrc.lk h0
  obtain ⟨nq, hnq⟩ : ∃ n, Q.length = n := ⟨_, rfl⟩
  obtain ⟨nl, hnl⟩ : ∃ n, Ls.length = n := ⟨_, rfl⟩
  rw [hnq] at hallz hz1 h5
  rw [hnl] at halll hl1 h3
  unfold maxLen at hz2 hl2
  rw [hnq, hnl] at CK CF
  rw [hnq] at HCk
  rw [hnq, hnl]
  have HNq := Lib.hid hnq
  have HNl := Lib.hid hnl
  have HAz := Lib.hid hallz
  have HAl := Lib.hid halll
  obtain ⟨il, hil, hl0, hl1', hl2'⟩ := info_partsU infoLn
  have K0 := Lib.hid (((Kp.start W).allocAt W.heap.size rfl (.cells #[.slice ra nr rc, .slice za nq zc, .slice la nl lc, .slice sa ns sc] 27)).allocAt (W.heap.size + 1) (by simp) (.cells #[.slice none 0 0, .slice none 0 0, .slice none 0 0, .slice none 0 0] 27))
  obtain ⟨W1, hW1⟩ : ∃ X, (W.alloc (.cells #[.slice ra nr rc, .slice za nq zc, .slice la nl lc, .slice sa ns sc] 27)).alloc (.cells #[.slice none 0 0, .slice none 0 0, .slice none 0 0, .slice none 0 0] 27) = X := ⟨_, rfl⟩
  rw [hW1] at K0
  obtain ⟨x0, x1, x2, x3⟩ := row4 (K0.out.at 1 rfl)
  clear hsrc hallz halll hnq hnl hck
  go_enter Tryd.func15, Tryd.ntmps15
  go_upto_region 1 with fail
  clear hW1
  go_upto_region 5 with (first | (go_at_call 31; refine (CK.out _ K0.out.below).mono ?_; rintro e X ⟨rfl, hb⟩; have K2 := Lib.hid (((K0.out.keep hb).allocAt X.heap.size rfl (.cells #[.int .i64 0, .int .i64 0, .int .i64 0] 71)).allocAt (X.heap.size + 1) (by simp) (.cells #[.slice ra nr rc, .slice za nq zc, .slice none 0 0, .slice sa ns sc] 27)); obtain ⟨y0, y1, y2, y3⟩ := row4 (((K0.out.keep hb).allocAt X.heap.size rfl (.cells #[.int .i64 0, .int .i64 0, .int .i64 0] 71)).at 2 rfl); clear hb))
  go_upto_region 6 with fail
  obtain ⟨Y1, hY1⟩ : ∃ Y, (X.alloc (.cells #[.int .i64 0, .int .i64 0, .int .i64 0] 71)).alloc (.cells #[.slice ra nr rc, .slice za nq zc, .slice none 0 0, .slice sa ns sc] 27) = Y := ⟨_, rfl⟩
  rw [hY1] at K2 ⊢
  obtain ⟨T6, hT6⟩ : ∃ b, X.heap.size + 1 = b := ⟨_, rfl⟩
  obtain ⟨PB, hPB⟩ : ∃ b, X.heap.size = b := ⟨_, rfl⟩
  rw [hT6] at K2 ⊢
  rw [hPB] at K2 ⊢
  have K3 := Lib.hid (show Kp [(T6, .cells #[.slice ra nr rc, .slice za nq zc, .slice none 0 0, .slice sa ns sc] 27 (0, 0)), (PB, .cells #[.int .i64 0, .int .i64 0, .int .i64 0] 71 (0, 0)), (W.heap.size + 1, .cells #[.slice none 0 0, .slice none 0 0, .slice none 0 0, .slice none 0 0] 27 (0, 0)), (W.heap.size, .cells #[.slice ra nr rc, .slice za nq zc, .slice la nl lc, .slice sa ns sc] 27 (0, 0))] [⟨.slice none 0 0, 43, 2, 0, ((flatL (znames Q) Ls).take 0).flatMap kcells⟩] W Y1 from K2.out.fresh 43 2)
  clear hY1 hT6 hPB x0 x1 x2 x3 y0 y1 y2 y3 K0 K2
  go_wp2_with fail
  go_loopw [7] (fun i7 wr => ∃ (i : Nat) (v : Value), i ≤ nl ∧ i7 = .int .i64 (i : Int) ∧ Kp [(T6, .cells #[.slice ra nr rc, .slice za nq zc, v, .slice sa ns sc] 27 (0, 0)), (PB, .cells #[.int .i64 0, .int .i64 0, .int .i64 0] 71 (0, 0)), (W.heap.size + 1, .cells #[.slice none 0 0, .slice none 0 0, .slice none 0 0, .slice none 0 0] 27 (0, 0)), (W.heap.size, .cells #[.slice ra nr rc, .slice za nq zc, .slice la nl lc, .slice sa ns sc] 27 (0, 0))] [⟨v, 43, 2, i, ((flatL (znames Q) Ls).take i).flatMap kcells⟩] W wr) (fun i7 _ => nl - (intOf i7).toNat)
  case atStart => exact ⟨0, _, by omega, rfl, K3.out⟩
  case round =>
    obtain ⟨i, v, hi', rfl, hk⟩ := hrel
    obtain ⟨a3, c3, rfl⟩ : ∃ a c, v = .slice a i c := own_slice (hk.row 0 rfl)
    have HK := Lib.hid hk
    clear hk K3
    obtain ⟨u0, u1, u2, u3⟩ := row4 (HK.out.at 3 rfl)
    by_cases hlt : i < nl
    · obtain ⟨bl, ol, c1, e1, _, _, hbl, hcl⟩ := HAl.out (by omega)
      simp only [Value.slice.injEq] at e1
      obtain ⟨rfl, _, rfl⟩ := e1
      have hil' : i < Ls.length := by rw [HNl.out]; exact hlt
      obtain ⟨j, hj, hf⟩ := HCk.out i hil'
      obtain ⟨bz, oz, c2, e2, _, _, hbz, hcz⟩ := HAz.out (by omega)
      simp only [Value.slice.injEq] at e2
      obtain ⟨rfl, _, rfl⟩ := e2
      obtain ⟨p, hp⟩ : ∃ p, Ls[i]? = some p := ⟨_, List.getElem?_eq_getElem hil'⟩
      have hgp : Ls.getD i ([], []) = p := by rw [List.getD, hp]; rfl
      rw [hgp] at hf
      obtain ⟨q, hq⟩ : ∃ q, Q[j]? = some q := ⟨_, List.getElem?_eq_getElem (by rw [HNq.out]; exact hj)⟩
      have hst := flat_at' (Zn := znames Q) hp
      rw [hf] at hst
      dsimp only at hst
      rw [show (znames Q).getD j [] = q.1 by unfold znames; rw [List.getD, List.getElem?_map, hq]; rfl] at hst
      have CFx := Lib.hid (fun (Y : World) (hB : Below W.heap.size W Y) => CF.out p Y hB)
      rw [hf] at CFx
      have hc1 := Lib.hid (show W.cell? ⟨bl, ol + i * 2 + 1, none⟩ = some (.string (bs p.1)) from hcl _ _ (lk_at Ls hp).2)
      have hz0 := Lib.hid (show W.cell? ⟨bz, oz + j * 2, none⟩ = some (.string (bs q.1)) from hcz _ _ (zo_at Q hq).1)
      obtain ⟨sn, hsn⟩ : ∃ s, bs p.1 = s := ⟨_, rfl⟩
      obtain ⟨sq, hsq⟩ : ∃ s, bs q.1 = s := ⟨_, rfl⟩
      rw [hsn] at hc1 hst CFx
      rw [hsq] at hz0 hst
      have HSt := Lib.hid hst
      clear hst hsn hsq hf hp hgp hq hcl hcz
      have HS := Lib.hid (fun (Y : World) (hB : Below wr.heap.size wr Y) => (show Y.cell? ⟨W.heap.size, 0, none⟩ = some (.slice ra nr rc) ∧ Y.cell? ⟨W.heap.size, 1, none⟩ = some (.slice (some ⟨bz, oz, none⟩) nq zc) ∧ Y.cell? ⟨W.heap.size, 2, none⟩ = some (.slice (some ⟨bl, ol, none⟩) nl lc) ∧ Y.cell? ⟨W.heap.size, 3, none⟩ = some (.slice sa ns sc) ∧ Y.cell? ⟨bl, ol + i * 2 + 1, none⟩ = some (.string sn) ∧ bl < Y.heap.size ∧ Below wr.heap.size wr Y from
        ⟨cells_at ((HK.out.keep hB).at 3 rfl) 0, cells_at ((HK.out.keep hB).at 3 rfl) 1, cells_at ((HK.out.keep hB).at 3 rfl) 2, cells_at ((HK.out.keep hB).at 3 rfl) 3, ((HK.out.keep hB).below.cell (p := ⟨bl, ol + i * 2 + 1, none⟩) hbl).trans hc1.out, Nat.lt_of_lt_of_le hbl (HK.out.keep hB).below.size, hB⟩))
      have HWp := Lib.hid (fun (Y : World) (hB : Below wr.heap.size wr Y) => (show Below W.heap.size W Y from (HK.out.keep hB).below))
      have HX0 : Hid (Below wr.heap.size wr wr.drew) := Lib.hid (bdrew wr)
      go_upto_region 9 with fail
      clear u0 u1 u2 u3
      obtain ⟨t0, t1, t2, t3, t4, t5, _⟩ := HS.out wr (Below.refl _ _)
      go_region_held3 (fun w' => w'.cell? ⟨W.heap.size, 0, none⟩ = some (.slice ra nr rc) ∧ w'.cell? ⟨W.heap.size, 1, none⟩ = some (.slice (some ⟨bz, oz, none⟩) nq zc) ∧ w'.cell? ⟨W.heap.size, 2, none⟩ = some (.slice (some ⟨bl, ol, none⟩) nl lc) ∧ w'.cell? ⟨W.heap.size, 3, none⟩ = some (.slice sa ns sc) ∧ w'.cell? ⟨bl, ol + i * 2 + 1, none⟩ = some (.string sn) ∧ bl < w'.heap.size ∧ Below wr.heap.size wr w')
        (first | with_reducible exact HS.out _ HX1.out | with_reducible exact HS.out _ HX0.out)
        (first | (go_at_call 32; refine (CFx.out _ (HWp.out _ HX0.out)).mono ?_; rintro e X6 ⟨rfl, hb2⟩; have HX1 : Hid (Below wr.heap.size wr X6) := Lib.hid (HX0.out.trans (hb2.mono HX0.out.size)); clear hb2))
      all_goals
        clear t0 t1 t2 t3 t4 t5 HS HWp HX0
        have K6 := Lib.hid (HK.out.keep HX1.out)
        clear HK HX1
        obtain ⟨s0, s1, s2, s3⟩ := row4 (K6.out.at 3 rfl)
        obtain ⟨q0, q1, q2, q3⟩ := row4 (K6.out.at 0 rfl)
        have k1 := (K6.out.below.cell (p := ⟨bl, ol + i * 2 + 1, none⟩) hbl).trans hc1.out
        have k2 := (K6.out.below.cell (p := ⟨bz, oz + j * 2, none⟩) hbz).trans hz0.out
        have w1 := Nat.lt_of_lt_of_le hbl K6.out.below.size
        have w2 := Nat.lt_of_lt_of_le hbz K6.out.below.size
        have w3 := K6.out.lt 0 rfl
        have w4 := K6.out.lt 3 rfl
        have KE := Lib.hid (K6.out.allocAt X6.heap.size rfl (.cells #[.string sq, .string sn] 43)).drew
        go_upto_region 10 with fail
        obtain ⟨p0, p1, p2, p3⟩ := row4 (KE.out.at 1 rfl)
        go_region_law
          (first
            | (refine step_append_lies _ (by rfl) (.tmp 40) (.tmp 54) 24 (by rfl) W.heap.size 43 il (.agg #[.string ⟨#[]⟩, .string ⟨#[]⟩]) 2 32 Tryd.underlying24 hil hl0 hl1' hl2' (by rfl) (by decide) _ i _ (by rfl) (KE.out.row 0 rfl) ⟨X6.heap.size, 0, none⟩ 1 1 [.string sq, .string sn] (by rfl) (by rfl) (World.news_of_block (KE.out.at 0 rfl)) (by simp [Value.oneCell']) (by omega) (by unfold maxLen; omega) (by omega) KE.out.below.size _ rfl ?_; intro g cap wa hown hgrow hat hlt2; have K7 := Lib.hid ((KE.out.append hown hgrow (ownAt hat)).drop); obtain ⟨y0, y1, y2, y3⟩ := row4 (K7.out.at 0 rfl); have y4 := free_at (K7.out.at 0 rfl) 2; clear hown hgrow hat hlt2))
        all_goals
          have K8 := Lib.hid (K7.out.set 0 rfl 2 (.slice (some ⟨g, 0, none⟩) (i + 1) cap) rfl)
          go_wp2_with fail
          go_roundw
          case rel =>
            refine ⟨i + 1, .slice (some ⟨g, 0, none⟩) (i + 1) cap, by omega, by go_num, ?_⟩
            rw [HSt.out]
            exact K8.out
          case measure => simp [intOf]; omega
    · obtain rfl : nl = i := by omega
      obtain ⟨y0, y1, y2, y3⟩ := row4 (HK.out.at 0 rfl)
      obtain ⟨x0, x1, x2, x3⟩ := row4 (HK.out.at 2 rfl)
      have f0 := free_at (HK.out.at 2 rfl) 0
      have f1 := free_at (HK.out.at 2 rfl) 1
      have f2 := free_at (HK.out.at 2 rfl) 2
      have f3 := free_at (HK.out.at 2 rfl) 3
      go_wp2_with fail
      have KF := Lib.hid ((((HK.out.set 2 rfl 0 (.slice ra nr rc) rfl).set 2 rfl 1 (.slice za nq zc) rfl).set 2 rfl 2 (.slice a3 nl c3) rfl).set 2 rfl 3 (.slice sa ns sc) rfl)
      obtain ⟨r0, r1, r2, r3⟩ := row4 (KF.out.at 2 rfl)
      refine bodyPost_ret (v := .tuple #[.agg #[.slice ra nr rc, .slice za nq zc, .slice a3 nl c3, .slice sa ns sc], .int .i64 0]) (by simp [results, Tryd.results15, go_sem, r0, r1, r2, r3]) rfl ⟨_, rfl, ?_⟩
      have h := KF.out.pick (List.nil_sublist _)
      rw [List.take_of_length_le (by rw [flatL_len, HNl.out]; exact Nat.le_refl _)] at h
      exact h
end Go.Proofs.YtnffecoohkanhaaDoor.Px
