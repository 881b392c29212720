/- The function Links of package flatten. -/
import Derived.Test.YtnffecoohkanhaaDoorYFtB
import Derived.Test.YtnffecoohkanhaaDoorYFtC
import Derived.Test.YtnffecoohkanhaaDoorYFtK
import Derived.Test.YtnffecoohkanhaaDoorM12
namespace Go.Proofs.YtnffecoohkanhaaDoor.Px
open Go.RowKit
open Go.Maps (Keyed)
open Lk Ld

set_option maxHeartbeats 8000000 in
set_option maxRecDepth 100000 in
theorem links35_no (rv zv lv sv : Value) (nr ns : Nat) (rs ss : List Value) (Z : List Zq) (Q : List Zo) (Ls : List (List UInt8 × List UInt8)) (W : World) (hr : SlV W rv 11 nr rs) (hz : ZoV W zv Q) (hl : LkV W lv Ls) (hs : SlV W sv 1 ns ss)
    (_ : ∀ u ∈ rs, u.oneCell' = true) (_ : ∀ u ∈ ss, u.oneCell' = true) (hrn : ∀ c, rv = .slice none nr c → c = 0) (hln : ∀ c, lv = .slice none Ls.length c → c = 0) (hsn : ∀ c, sv = .slice none ns c → c = 0)
    (_ : Q.length = Z.length) (_ : ∀ (i : Nat) (z : Zq) (o : Zo), Z[i]? = some z → Q[i]? = some o → ZqOk W z o) (_ : nr ≤ 1000000) (_ : ns ≤ 1000000) (h3 : Ls.length ≤ 1000000) (_ : Z.length ≤ 1000) (hsrc : SrcV W zv lv Q Ls) (er : Int) (he : (checkL (znames Q) Ls zoneOk).2 = er) (her : er ≠ 0) (h5 : Q.length ≤ 1000000) :
    Calls Tryd.prog 14 #[.agg #[rv, zv, lv, sv]] W fun e w' => e = .returned (.tuple #[.agg #[.slice none 0 0, .slice none 0 0, .slice none 0 0, .slice none 0 0], .int .i64 er]) ∧ Below W.heap.size W w' := by
  have CK := Lib.hid (fun (Y : World) (hB : Below W.heap.size W Y) => check_any rv zv lv sv Q Ls Y (hsrc.keep hB) h5 h3)
  rw [he] at CK
  obtain ⟨pa, hpa⟩ : ∃ p, (checkL (znames Q) Ls zoneOk).1.1 = p := ⟨_, rfl⟩
  obtain ⟨pb, hpb⟩ : ∃ p, (checkL (znames Q) Ls zoneOk).1.2 = p := ⟨_, rfl⟩
  rw [hpa, hpb] at CK
  have CF := Lib.hid (show Q.length = Q.length ∧ Ls.length = Ls.length from ⟨rfl, rfl⟩)
  obtain ⟨ra, rc, rfl, _, _⟩ := hr.slA
  obtain ⟨za, zc, rfl, hz1, hz2⟩ := SlV.slA hz
  obtain ⟨la, lc, rfl, hl1, hl2⟩ := SlV.slA hl
  obtain ⟨sa, sc, rfl, _, _⟩ := hs.slA
  have hallz := fun h0 => SlV.allA hz h0
  have halll := fun h0 => SlV.allA hl h0
  obtain ⟨nq, hnq⟩ : ∃ n, Q.length = n := ⟨_, rfl⟩
  obtain ⟨nz, hnz⟩ : ∃ n, Z.length = n := ⟨_, rfl⟩
  obtain ⟨nl, hnl⟩ : ∃ n, Ls.length = n := ⟨_, rfl⟩
  rw [hnq] at hallz hz1
  rw [hnl] at halll hl1
  unfold maxLen at hz2 hl2
  rw [hnq, hnl] at CK CF
  rw [hnq, hnl]
  have K0 := Lib.hid (((Kp.start W).allocAt W.heap.size rfl (.cells #[.slice ra nr rc, .slice za nq zc, .slice la nl lc, .slice sa ns sc] 27)).allocAt (W.heap.size + 1) (by simp) (.cells #[.slice none 0 0, .slice none 0 0, .slice none 0 0, .slice none 0 0] 27))
  obtain ⟨W1, hW1⟩ : ∃ X, (W.alloc (.cells #[.slice ra nr rc, .slice za nq zc, .slice la nl lc, .slice sa ns sc] 27)).alloc (.cells #[.slice none 0 0, .slice none 0 0, .slice none 0 0, .slice none 0 0] 27) = X := ⟨_, rfl⟩
  rw [hW1] at K0
  obtain ⟨x0, x1, x2, x3⟩ := row4 (K0.out.at 1 rfl)
  clear hr hz hl hs hrn hln hsn hsrc hallz halll hnq hnz hnl he hpa hpb CF
  go_enter Tryd.func14, Tryd.ntmps14
  go_upto_region 1 with fail
  clear hW1
  go_wp2_with (first | (go_at_call 28; refine (CK.out _ K0.out.below).mono ?_; rintro e X ⟨rfl, hb⟩; have K1 := Lib.hid ((K0.out.keep hb).allocAt X.heap.size rfl (.cells #[.int .i64 pa, .int .i64 pb, .int .i64 0] 71)); obtain ⟨y0, y1, y2, y3⟩ := row4 (K1.out.at 1 rfl); have f0 := free_at (K1.out.at 1 rfl) 0; have f1 := free_at (K1.out.at 1 rfl) 1; have f2 := free_at (K1.out.at 1 rfl) 2; have f3 := free_at (K1.out.at 1 rfl) 3; clear hb))
  have KF := Lib.hid ((((K1.out.set 1 rfl 0 (.slice none 0 0) rfl).set 1 rfl 1 (.slice none 0 0) rfl).set 1 rfl 2 (.slice none 0 0) rfl).set 1 rfl 3 (.slice none 0 0) rfl)
  obtain ⟨r0, r1, r2, r3⟩ := row4 (KF.out.at 1 rfl)
  exact bodyPost_ret (v := .tuple #[.agg #[.slice none 0 0, .slice none 0 0, .slice none 0 0, .slice none 0 0], .int .i64 er]) (by simp [results, Tryd.results14, go_sem, r0, r1, r2, r3]) rfl ⟨rfl, KF.out.below⟩
/-- the links of a source, each leading to a zone -/
def flatL (Zn : List (List UInt8)) (Ls : List (List UInt8 × List UInt8)) : List (List UInt8 × List UInt8) := Ls.map fun p => (p.1, Zn.getD (findL Zn Ls p.1).1 [])
def mixL (Zn : List (List UInt8)) (Ls : List (List UInt8 × List UInt8)) (i : Nat) : List (List UInt8 × List UInt8) := (flatL Zn Ls).take i ++ Ls.drop i
theorem flatL_len (Zn : List (List UInt8)) (Ls : List (List UInt8 × List UInt8)) : (flatL Zn Ls).length = Ls.length := by unfold flatL; rw [List.length_map]
theorem mix_step {Zn : List (List UInt8)} {Ls : List (List UInt8 × List UInt8)} {i : Nat} (hi : i < Ls.length) : ((mixL Zn Ls i).flatMap kcells).set (i * 2) (.string (bs (Zn.getD (findL Zn Ls (Ls.getD i ([], [])).1).1 []))) = (mixL Zn Ls (i + 1)).flatMap kcells := by
  have hf : i < (flatL Zn Ls).length := by rw [flatL_len]; exact hi
  have hl : ((flatL Zn Ls).take i).length = i := by rw [List.length_take]; omega
  have hg : (mixL Zn Ls i).getD i ([], []) = Ls.getD i ([], []) := by
    unfold mixL
    rw [List.getD, List.getElem?_append_right (by omega), hl, Nat.sub_self, List.getElem?_drop, Nat.add_zero, List.getD]
  rw [lks_set _ _ _ (by unfold mixL; rw [List.length_append, hl, List.length_drop]; omega), hg]
  congr 1
  unfold mixL
  rw [List.set_append_right _ _ (by omega), hl, Nat.sub_self, List.drop_eq_getElem_cons hi, List.take_add_one, List.getElem?_eq_getElem hf]
  have e1 : Ls.getD i ([], []) = Ls[i] := by rw [List.getD, List.getElem?_eq_getElem hi]; rfl
  have e2 : (flatL Zn Ls)[i] = (Ls[i].1, Zn.getD (findL Zn Ls Ls[i].1).1 []) := by simp [flatL]
  rw [e1, e2, List.set_cons_zero, List.append_assoc]
  rfl
set_option maxHeartbeats 8000000 in
set_option maxRecDepth 100000 in
theorem links35_ok (rv zv lv sv : Value) (nr ns : Nat) (rs ss : List Value) (Z : List Zq) (Q : List Zo) (Ls : List (List UInt8 × List UInt8)) (W : World) (hr : SlV W rv 11 nr rs) (hz : ZoV W zv Q) (hl : LkV W lv Ls) (hs : SlV W sv 1 ns ss)
    (hr1 : ∀ u ∈ rs, u.oneCell' = true) (hs1 : ∀ u ∈ ss, u.oneCell' = true) (hrn : ∀ c, rv = .slice none nr c → c = 0) (hln : ∀ c, lv = .slice none Ls.length c → c = 0) (hsn : ∀ c, sv = .slice none ns c → c = 0)
    (hlen : Q.length = Z.length) (hq : ∀ (i : Nat) (z : Zq) (o : Zo), Z[i]? = some z → Q[i]? = some o → ZqOk W z o) (h1 : nr ≤ 1000000) (h2 : ns ≤ 1000000) (h3 : Ls.length ≤ 1000000) (h4 : Z.length ≤ 1000) (hsrc : SrcV W zv lv Q Ls) (hck : checkL (znames Q) Ls zoneOk = ((0, 0), 0)) (h5 : Q.length ≤ 1000000) :
    Calls Tryd.prog 14 #[.agg #[rv, zv, lv, sv]] W fun e w' => ∃ (rv2 zv2 lv2 sv2 : Value) (E : List (Zq × Zo)), e = .returned (.tuple #[.agg #[rv2, zv2, lv2, sv2], .int .i64 0]) ∧ E.map Prod.fst = Z ∧ (∀ p ∈ E, p.2.1 = p.1.nm) ∧
      Kp [] (⟨lv2, 43, 2, Ls.length, (flatL (znames Q) Ls).flatMap kcells⟩ :: ⟨zv2, 40, 2, Z.length, (E.map Prod.snd).flatMap zcells⟩ :: ⟨sv2, 9, 1, ns, ss⟩ :: ⟨rv2, 36, 11, nr, rs⟩ :: E.reverse.map eraR) W w' := by
  have CK := Lib.hid (fun (Y : World) (hB : Below W.heap.size W Y) => check_any rv zv lv sv Q Ls Y (hsrc.keep hB) h5 h3)
  rw [hck] at CK
  have CF := Lib.hid (fun (p : List UInt8 × List UInt8) (hp : p ∈ Ls) (Y : World) (hB : Below W.heap.size W Y) => find_any rv zv lv sv Q Ls p.1 Y (hsrc.keep hB) (hsrc.ln p hp).1 h5 h3)
  have CC := Lib.hid (fun (Y : World) (hB : Below W.heap.size W Y) => copied_any rv zv lv sv nr ns rs ss Z Q Ls Y (hr.keep hB) (hz.keep hB) (hl.keep hB) (hs.keep hB) hr1 hs1 hrn hln hsn hlen (fun i z o h1 h2 => (hq i z o h1 h2).keep hB) h1 h2 h3 h4)
  have HCk := Lib.hid (show ∀ i, i < Ls.length → ∃ j, j < Q.length ∧ findL (znames Q) Ls (Ls.getD i ([], [])).1 = (j, 0) from fun i hi => by
    obtain ⟨j, hj, h⟩ := fine_find hck hi
    exact ⟨j, by unfold znames at hj; rw [List.length_map] at hj; exact hj, h⟩)
  obtain ⟨ra, rc, rfl, _, _⟩ := hr.slA
  obtain ⟨za, zc, rfl, hz1, hz2⟩ := SlV.slA hz
  obtain ⟨la, lc, rfl, hl1, hl2⟩ := SlV.slA hl
  obtain ⟨sa, sc, rfl, _, _⟩ := hs.slA
  have hallz := fun h0 => SlV.allA hz h0
  have halll := fun h0 => SlV.allA hl h0
  obtain ⟨nq, hnq⟩ : ∃ n, Q.length = n := ⟨_, rfl⟩
  obtain ⟨nz, hnz⟩ : ∃ n, Z.length = n := ⟨_, rfl⟩
  obtain ⟨nl, hnl⟩ : ∃ n, Ls.length = n := ⟨_, rfl⟩
  rw [hnq] at hallz hz1
  rw [hnl] at halll hl1
  unfold maxLen at hz2 hl2
  rw [hnq, hnl] at CK CF CC
  rw [hnq] at HCk
  rw [hnz] at CC
  rw [hnq, hnl, hnz]
  have mixed : Tryd.prog.follows Departure.mixedOrders = true := by kernel_rfl
  have HNq := Lib.hid hnq
  have HNl := Lib.hid hnl
  have HAz := Lib.hid hallz
  have HAl := Lib.hid halll
  have K0 := Lib.hid (((Kp.start W).allocAt W.heap.size rfl (.cells #[.slice ra nr rc, .slice za nq zc, .slice la nl lc, .slice sa ns sc] 27)).allocAt (W.heap.size + 1) (by simp) (.cells #[.slice none 0 0, .slice none 0 0, .slice none 0 0, .slice none 0 0] 27))
  obtain ⟨W1, hW1⟩ : ∃ X, (W.alloc (.cells #[.slice ra nr rc, .slice za nq zc, .slice la nl lc, .slice sa ns sc] 27)).alloc (.cells #[.slice none 0 0, .slice none 0 0, .slice none 0 0, .slice none 0 0] 27) = X := ⟨_, rfl⟩
  rw [hW1] at K0
  obtain ⟨x0, x1, x2, x3⟩ := row4 (K0.out.at 1 rfl)
  clear hr hz hl hs hr1 hs1 hrn hln hsn hlen hq hsrc hallz halll hnq hnz hnl hck
  go_enter Tryd.func14, Tryd.ntmps14
  go_upto_region 1 with fail
  clear hW1
  go_upto_region 5 with (first
    | (go_at_call 28; refine (CK.out _ K0.out.below).mono ?_; rintro e X ⟨rfl, hb⟩; have K1 := Lib.hid ((K0.out.keep hb).allocAt X.heap.size rfl (.cells #[.int .i64 0, .int .i64 0, .int .i64 0] 71)); obtain ⟨y0, y1, y2, y3⟩ := row4 (K1.out.at 2 rfl); clear hb)
    | (go_at_call 29; refine (CC.out _ K1.out.below).mono ?_; rintro e X2 ⟨rv2, zv2, lv2, sv2, E, rfl, hE, hEn, hk⟩; obtain ⟨ra2, rc2, rfl⟩ : ∃ a c, rv2 = .slice a nr c := own_slice (hk.row 3 rfl); obtain ⟨la2, lc2, rfl⟩ : ∃ a c, lv2 = .slice a nl c := own_slice (hk.row 2 rfl); obtain ⟨sa2, sc2, rfl⟩ : ∃ a c, sv2 = .slice a ns c := own_slice (hk.row 1 rfl); obtain ⟨za2, zc2, rfl⟩ : ∃ a c, zv2 = .slice a nz c := own_slice (hk.row 0 rfl); have K2 := Lib.hid ((K1.out.adopt hk).allocAt X2.heap.size rfl (.cells #[.slice ra2 nr rc2, .slice za2 nz zc2, .slice la2 nl lc2, .slice sa2 ns sc2] 27)); have HE := Lib.hid hE; have HEn := Lib.hid hEn; clear hk hE hEn))
  obtain ⟨O, hO⟩ : ∃ b, X2.heap.size = b := ⟨_, rfl⟩
  obtain ⟨PB, hPB⟩ : ∃ b, X.heap.size = b := ⟨_, rfl⟩
  obtain ⟨Y1, hY1⟩ : ∃ Y, X2.alloc (.cells #[.slice ra2 nr rc2, .slice za2 nz zc2, .slice la2 nl lc2, .slice sa2 ns sc2] 27) = Y := ⟨_, rfl⟩
  rw [hY1] at K2 ⊢
  rw [hO] at K2 ⊢
  rw [hPB] at K2 ⊢
  clear hY1 hO hPB x0 x1 x2 x3 y0 y1 y2 y3
  have K3 := Lib.hid (show Kp [(O, .cells #[.slice ra2 nr rc2, .slice za2 nz zc2, .slice la2 nl lc2, .slice sa2 ns sc2] 27 (0, 0)), (PB, .cells #[.int .i64 0, .int .i64 0, .int .i64 0] 71 (0, 0)), (W.heap.size + 1, .cells #[.slice none 0 0, .slice none 0 0, .slice none 0 0, .slice none 0 0] 27 (0, 0)), (W.heap.size, .cells #[.slice ra nr rc, .slice za nq zc, .slice la nl lc, .slice sa ns sc] 27 (0, 0))] (⟨.slice la2 nl lc2, 43, 2, nl, (mixL (znames Q) Ls 0).flatMap kcells⟩ :: ⟨.slice za2 nz zc2, 40, 2, nz, (E.map Prod.snd).flatMap zcells⟩ :: ⟨.slice sa2 ns sc2, 9, 1, ns, ss⟩ :: ⟨.slice ra2 nr rc2, 36, 11, nr, rs⟩ :: E.reverse.map eraR) W Y1 from by
    have h := K2.out.perm (List.perm_middle (l₁ := [⟨.slice za2 nz zc2, 40, 2, nz, (E.map Prod.snd).flatMap zcells⟩, ⟨.slice sa2 ns sc2, 9, 1, ns, ss⟩]) (a := ⟨.slice la2 nl lc2, 43, 2, nl, Ls.flatMap kcells⟩) (l₂ := ⟨.slice ra2 nr rc2, 36, 11, nr, rs⟩ :: ((E.reverse.map eraR) ++ []))).symm
    rw [List.append_nil] at h
    exact h)
  obtain ⟨x0, x1, x2, x3⟩ := row4 (K3.out.at 3 rfl)
  go_wp2_with fail
  clear x0 x1 x2 x3 K2
  go_loopw [7, 8, 9, 10, 25] (fun _ _ _ _ i25 wr => ∃ i : Nat, i ≤ nl ∧ i25 = .int .i64 (i : Int) ∧ Kp [(O, .cells #[.slice ra2 nr rc2, .slice za2 nz zc2, .slice la2 nl lc2, .slice sa2 ns sc2] 27 (0, 0)), (PB, .cells #[.int .i64 0, .int .i64 0, .int .i64 0] 71 (0, 0)), (W.heap.size + 1, .cells #[.slice none 0 0, .slice none 0 0, .slice none 0 0, .slice none 0 0] 27 (0, 0)), (W.heap.size, .cells #[.slice ra nr rc, .slice za nq zc, .slice la nl lc, .slice sa ns sc] 27 (0, 0))] (⟨.slice la2 nl lc2, 43, 2, nl, (mixL (znames Q) Ls i).flatMap kcells⟩ :: ⟨.slice za2 nz zc2, 40, 2, nz, (E.map Prod.snd).flatMap zcells⟩ :: ⟨.slice sa2 ns sc2, 9, 1, ns, ss⟩ :: ⟨.slice ra2 nr rc2, 36, 11, nr, rs⟩ :: E.reverse.map eraR) W wr) (fun _ _ _ _ i25 _ => nl - (intOf i25).toNat)
  case atStart => exact ⟨0, by omega, rfl, K3.out⟩
  case round =>
    obtain ⟨i, hi', rfl, hk⟩ := hrel
    have HK := Lib.hid hk
    clear hk K3
    by_cases hlt : i < nl
    · obtain ⟨bl, ol, c1, e1, _, _, hbl, hcl⟩ := HAl.out (by omega)
      simp only [Value.slice.injEq] at e1
      obtain ⟨rfl, _, rfl⟩ := e1
      have hil : i < Ls.length := by rw [HNl.out]; exact hlt
      obtain ⟨j, hj, hf⟩ := HCk.out i (by first | exact hil | (rw [HNl.out] at *; exact hlt) | exact hlt)
      obtain ⟨bz, oz, c2, e2, _, _, hbz, hcz⟩ := HAz.out (by omega)
      simp only [Value.slice.injEq] at e2
      obtain ⟨rfl, _, rfl⟩ := e2
      have k0 := (HK.out.below.cell (p := ⟨bl, ol + i * 2, none⟩) hbl).trans (hcl (i * 2) _ (lk_get hil).1)
      have k1 := (HK.out.below.cell (p := ⟨bl, ol + (i * 2 + 1), none⟩) hbl).trans (hcl (i * 2 + 1) _ (lk_get hil).2)
      rw [← Nat.add_assoc] at k1
      have HMp := Lib.hid (getP_mem hil)
      have hst := mix_step (Zn := znames Q) hil
      obtain ⟨p, hp⟩ : ∃ p, Ls.getD i ([], []) = p := ⟨_, rfl⟩
      rw [hp] at k0 k1 HMp hf hst
      rw [hf] at hst
      obtain ⟨q, hq⟩ : ∃ q, Q[j]? = some q := ⟨_, List.getElem?_eq_getElem (by rw [HNq.out]; exact hj)⟩
      have hz0 := hcz (j * 2) _ (zo_at Q hq).1
      have hqn : (znames Q).getD j [] = q.1 := by
        unfold znames
        rw [List.getD, List.getElem?_map, hq]
        rfl
      dsimp only at hst
      rw [hqn] at hst
      obtain ⟨sn, hsn⟩ : ∃ s, bs p.1 = s := ⟨_, rfl⟩
      obtain ⟨st, hst2⟩ : ∃ s, bs p.2 = s := ⟨_, rfl⟩
      obtain ⟨sq, hsq⟩ : ∃ s, bs q.1 = s := ⟨_, rfl⟩
      rw [hst2] at k0
      rw [hsn] at k1
      rw [hsq] at hst hz0
      have HSt := Lib.hid hst
      have CFi := Lib.hid (fun (Y : World) (hB : Below W.heap.size W Y) => CF.out p HMp.out Y hB)
      rw [hf, hsn] at CFi
      have hblw : bl < wr.heap.size := Nat.lt_of_lt_of_le hbl HK.out.below.size
      have KE := Lib.hid (HK.out.allocAt wr.heap.size rfl (.cells #[.string st, .string sn] 43))
      clear hp hsn hst2 hst hf hcl hcz hq hqn hsq
      go_upto_region 8 with fail
      obtain ⟨Y5, hY5⟩ : ∃ Y, wr.alloc (.cells #[.string st, .string sn] 43) = Y := ⟨_, rfl⟩
      rw [hY5] at KE ⊢
      obtain ⟨bx, hbx⟩ : ∃ b, wr.heap.size = b := ⟨_, rfl⟩
      rw [hbx] at KE ⊢
      clear hY5 hbx k0 k1 hblw
      obtain ⟨x0, x1, x2, x3⟩ := row4 (KE.out.at 4 rfl)
      obtain ⟨w0, w1⟩ := row2 (KE.out.at 0 rfl)
      go_upto_region 11 with (first | (go_at_call 30; refine (CFi.out _ KE.out.below).mono ?_; rintro e X6 ⟨rfl, hb⟩; have K6 := Lib.hid (KE.out.keep hb).drop; clear hb))
      clear x0 x1 x2 x3 w0 w1
      obtain ⟨g2, rfl, -, hg1, hg2, hg3⟩ := own_some (K6.out.row 0 rfl) (show 0 < nl by omega)
      obtain ⟨x0, x1, x2, x3⟩ := row4 (K6.out.at 3 rfl)
      obtain ⟨y0, y1, y2, y3⟩ := row4 (K6.out.at 0 rfl)
      have z0 := (K6.out.below.cell (p := ⟨bz, oz + j * 2, none⟩) hbz).trans hz0
      have hmi : i < (mixL (znames Q) Ls i).length := by unfold mixL; rw [List.length_append, List.length_take, List.length_drop, flatL_len]; omega
      have c0 := own_cell (K6.out.row 0 rfl) (lk_get hmi).1
      have f0 := K6.out.free (show 0 < nl by omega) (i * 2)
      go_big_region_o
      go_wp2_with fail
      go_roundw
      case rel =>
        refine ⟨i + 1, by omega, by go_num, ?_⟩
        have h := K6.out.drew.put (show 0 < nl by omega) (i * 2) (.string sq)
        rw [HSt.out] at h
        exact h
      case measure => simp [intOf]; omega
    · obtain rfl : nl = i := by omega
      have hmx := Lib.hid (show mixL (znames Q) Ls nl = flatL (znames Q) Ls by
        unfold mixL
        rw [List.take_of_length_le (by rw [flatL_len, HNl.out]; exact Nat.le_refl _), List.drop_eq_nil_of_le (by rw [HNl.out]; exact Nat.le_refl _), List.append_nil])
      obtain ⟨y0, y1, y2, y3⟩ := row4 (HK.out.at 0 rfl)
      obtain ⟨x0, x1, x2, x3⟩ := row4 (HK.out.at 2 rfl)
      have f0 := free_at (HK.out.at 2 rfl) 0
      have f1 := free_at (HK.out.at 2 rfl) 1
      have f2 := free_at (HK.out.at 2 rfl) 2
      have f3 := free_at (HK.out.at 2 rfl) 3
      go_wp2_with fail
      have KF := Lib.hid ((((HK.out.set 2 rfl 0 (.slice ra2 nr rc2) rfl).set 2 rfl 1 (.slice za2 nz zc2) rfl).set 2 rfl 2 (.slice la2 nl lc2) rfl).set 2 rfl 3 (.slice sa2 ns sc2) rfl)
      obtain ⟨r0, r1, r2, r3⟩ := row4 (KF.out.at 2 rfl)
      refine bodyPost_ret (v := .tuple #[.agg #[.slice ra2 nr rc2, .slice za2 nz zc2, .slice la2 nl lc2, .slice sa2 ns sc2], .int .i64 0]) (by simp [results, Tryd.results14, go_sem, r0, r1, r2, r3]) rfl ⟨_, _, _, _, E, rfl, HE.out, HEn.out, ?_⟩
      have h := KF.out.pick (List.nil_sublist _)
      rw [hmx.out] at h
      exact h
end Go.Proofs.YtnffecoohkanhaaDoor.Px
