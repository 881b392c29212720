/- The reference's Names (chapter 15), walked. -/
import Derived.Test.YtdeompnaojiajaaDoorLnU
namespace Go.Proofs.YtdeompnaojiajaaDoor.Px
open Go.RowKit
open Go.Maps (Keyed)
open Lk

def lenOf : Value → Nat
  | .slice _ n _ => n
  | _ => 0
theorem less_of {x y : List UInt8} {s t : ByteArray} (hx : bs x = s) (hy : bs y = t) : Op.bytesLess s.toList t.toList = decide (x < y) := by
  subst hx hy
  rw [ByteArray.toList_eq, ByteArray.toList_eq]
  exact bytesLess_eq x y
def strR (v : Value) (l : List (List UInt8)) : Rw := ⟨v, 9, 1, l.length, l.map svv⟩
set_option maxHeartbeats 8000000 in
set_option maxRecDepth 100000 in
theorem names_ref (rv zv lv sv : Value) (Z : List Zo) (L : List (List UInt8 × List UInt8)) (W : World) (h : SrcV W zv lv Z L) (hz : Z.length ≤ 1000000) (hmax : L.length ≤ 1000000) :
    Calls Tryd.prog 12 #[.agg #[rv, zv, lv, sv]] W fun e w' => ∃ v, e = .returned v ∧ Kp [] [⟨v, 9, 1, (namesL (znames Z) L).length, (namesL (znames Z) L).map svv⟩] W w' := by
  obtain ⟨az, cz, rfl, hzc1, hzc2⟩ := h.zo.slA
  have hallz := fun h0 => h.zo.allA h0
  obtain ⟨al, cl, rfl, hlc1, hlc2⟩ := h.lk.slA
  have halll := fun h0 => h.lk.allA h0
  obtain ⟨nz, hnz⟩ : ∃ n, Z.length = n := ⟨_, rfl⟩
  obtain ⟨nl, hnl⟩ : ∃ n, L.length = n := ⟨_, rfl⟩
  rw [hnz] at hallz hz hzc1 ⊢
  rw [hnl] at halll hmax hlc1 ⊢
  unfold maxLen at hzc2 hlc2
  have HAz := Lib.hid hallz
  have HAl := Lib.hid halll
  have HNz := Lib.hid hnz
  have HNl := Lib.hid hnl
  obtain ⟨N, hN⟩ : ∃ N, namesL (znames Z) L = N := ⟨_, rfl⟩
  rw [hN]
  have HNm := Lib.hid hN
  obtain ⟨i0, hi, hz0, hz1, hz2⟩ := info_partsU infoStr
  have K0 := Lib.hid (show Kp [(W.heap.size, .cells #[rv, .slice az nz cz, .slice al nl cl, sv] 27 (0, 0))] [⟨.slice none 0 0, 9, 1, 0, ((znames Z).take 0).map svv⟩] W _ from ((Kp.start W).allocAt W.heap.size rfl (.cells #[rv, .slice az nz cz, .slice al nl cl, sv] 27)).fresh 9 1)
  clear h hallz halll hnz hnl hN
  go_enter Tryd.func12, Tryd.ntmps12
  go_wp2_with fail
  go_loopw [3, 4] (fun v3 i4 wr => ∃ i : Nat, i ≤ nz ∧ i4 = .int .i64 (i : Int) ∧ Kp [(W.heap.size, .cells #[rv, .slice az nz cz, .slice al nl cl, sv] 27 (0, 0))] [⟨v3, 9, 1, i, ((znames Z).take i).map svv⟩] W wr) (fun _ i4 _ => nz - (intOf i4).toNat)
  case atStart => exact ⟨0, by omega, rfl, K0.out⟩
  case round =>
    obtain ⟨i, hi', rfl, hk⟩ := hrel
    obtain ⟨a3, c3, rfl⟩ : ∃ a c, u3 = .slice a i c := own_slice (hk.row 0 rfl)
    have HK := Lib.hid hk
    obtain ⟨u0', u1', u2', u3'⟩ := row4 (HK.out.at 0 rfl)
    clear hk K0
    have hw0 := HK.out.lt 0 rfl
    by_cases hlt : i < nz
    · obtain ⟨b, o, c', e1, _, _, hb, hcell⟩ := HAz.out (by omega)
      simp only [Value.slice.injEq] at e1
      obtain ⟨rfl, _, rfl⟩ := e1
      obtain ⟨x, hx⟩ : ∃ x, Z[i]? = some x := ⟨_, List.getElem?_eq_getElem (by rw [HNz.out]; exact hlt)⟩
      obtain ⟨q0, q1⟩ := zo_at Z hx
      have k0 := (HK.out.below.cell (p := ⟨b, o + i * 2, none⟩) hb).trans (hcell _ _ q0)
      have hbw := Nat.lt_of_lt_of_le hb HK.out.below.size
      have htk : (znames Z).take (i + 1) = (znames Z).take i ++ [x.1] := by
        rw [List.take_add_one, znames_at hx]; rfl
      have HTk := Lib.hid htk
      obtain ⟨s, hs⟩ : ∃ s, bs x.1 = s := ⟨_, rfl⟩
      rw [hs] at k0
      have HS := Lib.hid hs
      have K1 := Lib.hid (HK.out.allocAt wr.heap.size rfl (.cells #[.string s] 9))
      clear hx hcell q0 q1 htk hs
      go_wp2_with (first
        | (at_builtin; refine wpList_append_own_at _ rfl (.tmp 16) (.tmp 23) 25 rfl W.heap.size 9 i0 (.string ⟨#[]⟩) 1 16 Tryd.underlying25 hi hz0 hz1 hz2 rfl (by decide) _ i _ rfl (K1.out.row 0 rfl) ⟨wr.heap.size, 0, none⟩ 1 1 [.string s] rfl rfl ?c1 ?c2 ?c3 ?c4 ?c5 ?_; (case c1 => exact World.news_of_block (K1.out.at 0 rfl)); (case c2 => simp [Value.oneCell']); (case c3 => unfold maxLen; omega); (case c4 => omega); (case c5 => exact K1.out.below.size); intro v' w2 hown hgrow _ hat; have K2 := Lib.hid (K1.out.append hown hgrow hat).drop; clear hown hgrow hat)
        | go_in)
      go_roundw
      case rel =>
        refine ⟨i + 1, by omega, by go_num, ?_⟩
        rw [HTk.out, svvs_snoc, HS.out]
        exact K2.out
      case measure => simp [intOf]; omega
    · obtain rfl : nz = i := by omega
      have hkz := HK.out
      rw [List.take_of_length_le (by rw [znames_len, HNz.out]; exact Nat.le_refl _)] at hkz
      have HKz := Lib.hid (show Kp [(W.heap.size, .cells #[rv, .slice az nz cz, .slice al nl cl, sv] 27 (0, 0))] [⟨.slice a3 nz c3, 9, 1, nz + 0, (znames Z ++ (nm L).take 0).map svv⟩] W wr from by simpa using hkz)
      clear hkz
      go_wp2_with fail
      clear u0' u1' u2' u3' HK
      go_loopw [3, 5] (fun v3 i5 wr => ∃ i : Nat, i ≤ nl ∧ i5 = .int .i64 (i : Int) ∧ Kp [(W.heap.size, .cells #[rv, .slice az nz cz, .slice al nl cl, sv] 27 (0, 0))] [⟨v3, 9, 1, nz + i, (znames Z ++ (nm L).take i).map svv⟩] W wr) (fun _ i5 _ => nl - (intOf i5).toNat)
      case atStart => exact ⟨0, by omega, rfl, HKz.out⟩
      case round =>
        obtain ⟨i, hi', rfl, hk⟩ := hrel
        obtain ⟨a3, c3, rfl⟩ : ∃ a c, u3 = .slice a (nz + i) c := own_slice (hk.row 0 rfl)
        have HK := Lib.hid hk
        obtain ⟨u0', u1', u2', u3'⟩ := row4 (HK.out.at 0 rfl)
        clear hk HKz
        have hw0 := HK.out.lt 0 rfl
        by_cases hlt : i < nl
        · obtain ⟨b, o, c', e1, _, _, hb, hcell⟩ := HAl.out (by omega)
          simp only [Value.slice.injEq] at e1
          obtain ⟨rfl, _, rfl⟩ := e1
          obtain ⟨x, hx⟩ : ∃ x, L[i]? = some x := ⟨_, List.getElem?_eq_getElem (by rw [HNl.out]; exact hlt)⟩
          obtain ⟨q0, q1⟩ := lk_at L hx
          have k0 := (HK.out.below.cell (p := ⟨b, o + i * 2 + 1, none⟩) hb).trans (hcell _ _ q1)
          have hbw := Nat.lt_of_lt_of_le hb HK.out.below.size
          have htk : znames Z ++ (nm L).take (i + 1) = (znames Z ++ (nm L).take i) ++ [x.1] := by
            rw [List.take_add_one, nm_at hx, List.append_assoc]; rfl
          have HTk := Lib.hid htk
          obtain ⟨s, hs⟩ : ∃ s, bs x.1 = s := ⟨_, rfl⟩
          rw [hs] at k0
          have HS := Lib.hid hs
          have K1 := Lib.hid (HK.out.allocAt wr.heap.size rfl (.cells #[.string s] 9))
          clear hx hcell q0 q1 htk hs
          go_wp2_with (first
            | (at_builtin; refine wpList_append_own_at _ rfl (.tmp 32) (.tmp 39) 25 rfl W.heap.size 9 i0 (.string ⟨#[]⟩) 1 16 Tryd.underlying25 hi hz0 hz1 hz2 rfl (by decide) _ (nz + i) _ rfl (K1.out.row 0 rfl) ⟨wr.heap.size, 0, none⟩ 1 1 [.string s] rfl rfl ?c1 ?c2 ?c3 ?c4 ?c5 ?_; (case c1 => exact World.news_of_block (K1.out.at 0 rfl)); (case c2 => simp [Value.oneCell']); (case c3 => unfold maxLen; omega); (case c4 => omega); (case c5 => exact K1.out.below.size); intro v' w2 hown hgrow _ hat; have K2 := Lib.hid (K1.out.append hown hgrow hat).drop; clear hown hgrow hat)
            | go_in)
          go_roundw
          case rel =>
            refine ⟨i + 1, by omega, by go_num, ?_⟩
            rw [HTk.out, svvs_snoc, HS.out, ← Nat.add_assoc]
            exact K2.out
          case measure => simp [intOf]; omega
        · obtain rfl : nl = i := by omega
          have hkz := HK.out
          rw [List.take_of_length_le (by rw [nm_len, HNl.out]; exact Nat.le_refl _)] at hkz
          have HAll := Lib.hid (show (znames Z ++ nm L).length = nz + nl by rw [List.length_append, znames_len, nm_len, HNz.out, HNl.out])
          obtain ⟨A, hA⟩ : ∃ A, znames Z ++ nm L = A := ⟨_, rfl⟩
          have HA := Lib.hid hA
          rw [hA] at hkz HAll
          obtain ⟨n, hn⟩ : ∃ n, nz + nl = n := ⟨_, rfl⟩
          have hnn : n ≤ 2000000 := by omega
          rw [hn] at hkz HAll ⊢
          have HKz := Lib.hid (hkz.fresh 9 1)
          clear hkz hA
          go_wp2_with fail
          clear u0' u1' u2' u3' HK
          go_loopw [6, 7, 8] (fun v6 _ _ wr => ∃ out : List (List UInt8), Least A out ∧ lenOf v6 = out.length ∧ Kp [(W.heap.size, .cells #[rv, .slice az nz cz, .slice al nl cl, sv] 27 (0, 0))] [⟨v6, 9, 1, out.length, out.map svv⟩, ⟨.slice a3 n c3, 9, 1, n, A.map svv⟩] W wr) (fun v6 _ _ _ => n + 1 - lenOf v6)
          case atStart => exact ⟨[], Least.nil A, rfl, HKz.out⟩
          case round =>
            obtain ⟨out, hle, _, hk⟩ := hrel
            obtain ⟨m, hm⟩ : ∃ m, out.length = m := ⟨_, rfl⟩
            have hlen := (Px.Least.len hle)
            rw [HAll.out, hm] at hlen
            rw [hm] at hk
            obtain ⟨a6, c6, rfl⟩ : ∃ a c, u6 = .slice a m c := own_slice (hk.row 0 rfl)
            have HK := Lib.hid hk
            have HL := Lib.hid hle
            have HM := Lib.hid hm
            have CH := Lib.hid (fun (Y : World) (hY : Kp [(W.heap.size, .cells #[rv, .slice az nz cz, .slice al nl cl, sv] 27 (0, 0))] [⟨.slice a6 m c6, 9, 1, m, out.map svv⟩, ⟨.slice a3 n c3, 9, 1, n, A.map svv⟩] W Y) (q : List UInt8) => has_ref out (.slice a6 m c6) q Y (by rw [hm]; exact SlV.of_own (hY.row 0 rfl)) (by omega))
            have CA := Lib.hid (fun (Y : World) (hY : Kp [(W.heap.size, .cells #[rv, .slice az nz cz, .slice al nl cl, sv] 27 (0, 0))] [⟨.slice a6 m c6, 9, 1, m, out.map svv⟩, ⟨.slice a3 n c3, 9, 1, n, A.map svv⟩] W Y) (h0 : 0 < n) => (SlV.of_own (hY.row 1 rfl)).allA h0)
            clear hk hle hm HKz
            go_wp2_with fail
            go_loopw [7, 8] (fun v7 i8 wr => ∃ (i : Nat) (nx : Int), i ≤ n ∧ i8 = .int .i64 (i : Int) ∧ v7 = .int .i64 nx ∧ NextOk A out i nx ∧ Kp [(W.heap.size, .cells #[rv, .slice az nz cz, .slice al nl cl, sv] 27 (0, 0))] [⟨.slice a6 m c6, 9, 1, m, out.map svv⟩, ⟨.slice a3 n c3, 9, 1, n, A.map svv⟩] W wr) (fun _ i8 _ => n - (intOf i8).toNat)
            case atStart => exact ⟨0, -1, by omega, rfl, rfl, NextOk.start A out, HK.out⟩
            case round =>
              obtain ⟨i, nx, hi', rfl, rfl, hnx, hk⟩ := hrel
              clear HK
              have HK := Lib.hid hk
              have HX := Lib.hid hnx
              clear hk hnx
              by_cases hlt : i < n
              · obtain ⟨b, o, c', e1, hq1, hq2, hb, hcell⟩ := CA.out _ HK.out (by omega)
                simp only [Value.slice.injEq] at e1
                obtain ⟨rfl, _, rfl⟩ := e1
                obtain ⟨x, hx⟩ : ∃ x, A[i]? = some x := ⟨_, List.getElem?_eq_getElem (by rw [HAll.out]; exact hlt)⟩
                have k0 := hcell i (.string (bs x)) (by rw [List.getElem?_map, hx]; rfl)
                have C := Lib.hid (fun (Y : World) (hY : Kp [(W.heap.size, .cells #[rv, .slice az nz cz, .slice al nl cl, sv] 27 (0, 0))] [⟨.slice a6 m c6, 9, 1, m, out.map svv⟩, ⟨.slice (some ⟨b, o, none⟩) n c3, 9, 1, n, A.map svv⟩] W Y) => CH.out Y hY x)
                obtain ⟨s, hs⟩ : ∃ s, bs x = s := ⟨_, rfl⟩
                have HS := Lib.hid hs
                rw [hs] at k0 C
                clear hs
                by_cases hm : x ∈ out
                · have HN' := Lib.hid (HX.out.old hx hm)
                  rw [decide_eq_true hm] at C
                  clear hcell hx hm
                  go_upto_region 15 with fail
                  go_quiet (first | (go_at_call 31; first | exact Calls.quiet_of_same (C.out _ (HK.out.keep (below_drewN (Below.refl _ _) _))) | exact quiet_add_same (C.out _ (HK.out.keep (below_drewN (Below.refl _ _) _)))))
                  go_wp2_with fail
                  go_roundw
                  case rel => exact ⟨i + 1, nx, by omega, by go_num, rfl, HN'.out, HK.out.keep (below_drewN (Below.refl _ _) _)⟩
                  case measure => simp [intOf]; omega
                · rw [decide_eq_false hm] at C
                  by_cases hneg : nx < 0
                  · have HN' := Lib.hid (HX.out.first hx hm hneg)
                    clear hcell hx hm
                    go_upto_region 15 with fail
                    go_quiet (first | (go_at_call 31; first | exact Calls.quiet_of_same (C.out _ (HK.out.keep (below_drewN (Below.refl _ _) _))) | exact quiet_add_same (C.out _ (HK.out.keep (below_drewN (Below.refl _ _) _)))))
                    go_wp2_with fail
                    go_roundw
                    case rel => exact ⟨i + 1, i, by omega, by go_num, by go_num, HN'.out, HK.out.keep (below_drewN (Below.refl _ _) _)⟩
                    case measure => simp [intOf]; omega
                  · obtain ⟨k, y, rfl, hki, hy⟩ : ∃ k y, nx = ((k : Nat) : Int) ∧ k < i ∧ A[k]? = some y := by
                      rcases HX.out.range with h1 | h1
                      · exact absurd (by omega) hneg
                      · exact h1
                    have k1 := hcell k (.string (bs y)) (by rw [List.getElem?_map, hy]; rfl)
                    obtain ⟨t, ht⟩ : ∃ s, bs y = s := ⟨_, rfl⟩
                    rw [ht] at k1
                    have hls := less_of HS.out ht
                    have hkn : (k : Int) < (n : Int) := by omega
                    by_cases hxy : x < y
                    · have HN' := Lib.hid (HX.out.less hx hm hy hxy)
                      rw [decide_eq_true hxy] at hls
                      clear hcell hx hm hy ht hxy hneg
                      go_upto_region 15 with fail
                      go_quiet (first | (go_at_call 31; first | exact Calls.quiet_of_same (C.out _ (HK.out.keep (below_drewN (Below.refl _ _) _))) | exact quiet_add_same (C.out _ (HK.out.keep (below_drewN (Below.refl _ _) _)))))
                      go_wp2_with fail
                      go_roundw
                      case rel => exact ⟨i + 1, i, by omega, by go_num, by go_num, HN'.out, HK.out.keep (below_drewN (Below.refl _ _) _)⟩
                      case measure => simp [intOf]; omega
                    · have HN' := Lib.hid (HX.out.keep hx hy hxy)
                      rw [decide_eq_false hxy] at hls
                      clear hcell hx hm hy ht hxy hneg
                      go_upto_region 15 with fail
                      go_quiet (first | (go_at_call 31; first | exact Calls.quiet_of_same (C.out _ (HK.out.keep (below_drewN (Below.refl _ _) _))) | exact quiet_add_same (C.out _ (HK.out.keep (below_drewN (Below.refl _ _) _)))))
                      go_wp2_with fail
                      go_roundw
                      case rel => exact ⟨i + 1, k, by omega, by go_num, rfl, HN'.out, HK.out.keep (below_drewN (Below.refl _ _) _)⟩
                      case measure => simp [intOf]; omega
              · obtain rfl : n = i := by omega
                by_cases hneg : nx < 0
                · have HD := Lib.hid (show ∀ x ∈ A, x ∈ out from NextOk.done (by rw [HAll.out]; exact HX.out) hneg)
                  go_wp2_with fail
                  refine bodyPost_ret (v := .slice a6 m c6) (by simp [results, Tryd.results12, go_sem]) rfl ⟨_, rfl, ?_⟩
                  have e : out = N := by
                    rw [← HNm.out]
                    exact names_least (by rw [HA.out]; exact HL.out) (by rw [HA.out]; exact HD.out)
                  have hk := (HK.out.drop).less (S := [⟨.slice a6 m c6, 9, 1, m, out.map svv⟩]) (List.Sublist.cons_cons _ (List.nil_sublist _))
                  rw [← HM.out] at hk
                  rw [e] at hk
                  rw [← HM.out, e]
                  exact hk
                · obtain ⟨k, y, rfl, hkl, hy, hyo, hle2⟩ := NextOk.take (by rw [HAll.out]; exact HX.out) hneg HL.out
                  rw [HAll.out] at hkl
                  obtain ⟨b, o, c', e1, hq1, hq2, hb, hcell⟩ := CA.out _ HK.out (by omega)
                  simp only [Value.slice.injEq] at e1
                  obtain ⟨rfl, _, rfl⟩ := e1
                  have k1 := hcell k (.string (bs y)) (by rw [List.getElem?_map, hy]; rfl)
                  obtain ⟨t, ht⟩ : ∃ s, bs y = s := ⟨_, rfl⟩
                  rw [ht] at k1
                  have HT := Lib.hid ht
                  have HL2 := Lib.hid hle2
                  have hl2 := (Px.Least.len hle2)
                  rw [List.length_append, HM.out, HAll.out] at hl2
                  have hml : m + 1 ≤ n := hl2
                  have hkn : (k : Int) < (n : Int) := by omega
                  have K1 := Lib.hid (HK.out.allocAt wr.heap.size rfl (.cells #[.string t] 9))
                  clear hcell hy ht hle2 hl2 hyo
                  go_wp2_with (first
                    | (at_builtin; refine wpList_append_own_at _ rfl (.tmp 73) (.tmp 78) 25 rfl W.heap.size 9 i0 (.string ⟨#[]⟩) 1 16 Tryd.underlying25 hi hz0 hz1 hz2 rfl (by decide) _ m _ rfl (K1.out.row 0 rfl) ⟨wr.heap.size, 0, none⟩ 1 1 [.string t] rfl rfl ?c1 ?c2 ?c3 ?c4 ?c5 ?_; (case c1 => exact World.news_of_block (K1.out.at 0 rfl)); (case c2 => simp [Value.oneCell']); (case c3 => unfold maxLen; omega); (case c4 => omega); (case c5 => exact K1.out.below.size); intro v' w2 hown hgrow _ hat; have K2 := Lib.hid (K1.out.append hown hgrow hat).drop; clear hown hgrow hat)
                    | go_in)
                  obtain ⟨a', c'', hv'⟩ : ∃ a c, v' = .slice a (m + 1) c := own_slice (K2.out.row 0 rfl)
                  go_roundw
                  case rel =>
                    refine ⟨out ++ [y], HL2.out, ?_, ?_⟩
                    · rw [hv', List.length_append, HM.out]; rfl
                    · rw [List.length_append, HM.out, svvs_snoc, HT.out]
                      exact K2.out
                  case measure =>
                    rw [hv']
                    show n + 1 - (m + 1) < n + 1 - m
                    omega
end Go.Proofs.YtdeompnaojiajaaDoor.Px
