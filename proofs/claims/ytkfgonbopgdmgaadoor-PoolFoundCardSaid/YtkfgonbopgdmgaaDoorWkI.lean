/- The walk of the law PoolFound: the list, the pool, how long it has to be, where the strings stand. -/
import Derived.Test.YtkfgonbopgdmgaaDoorWkH
namespace Go.Proofs.YtkfgonbopgdmgaaDoor.Px
open Go.RowKit
open Go.ChangeShapes Go.WideShapes
open Po St Tb

theorem good_snoc {l : List (List UInt8)} (h : GoodP l) {x : List UInt8} (hx : x ∈ l) {k : Nat} (hk : k < x.length) : GoodP (l ++ [x.drop k]) := by
  intro s hs
  rcases List.mem_append.1 hs with hs | hs
  · exact h s hs
  · rw [List.mem_singleton.1 hs]
    exact ⟨by rw [List.length_drop]; omega, fun q => (h x hx).2 (List.mem_of_mem_drop q)⟩
theorem extract_drop (x : List UInt8) (k : Nat) : (bs x).extract k (bs x).size = bs (x.drop k) := by
  apply bs_ext
  rw [piece_is, bs_list]
  exact List.take_of_length_le (by rw [List.length_drop]; exact Nat.le_refl _)
set_option maxHeartbeats 16000000 in
set_option maxRecDepth 100000 in
theorem poolFound_walk {W : World} (R : List (List UInt8)) (v : Value) (hV : RowsV W v R) (C : List UInt8) (cv : Value) (hC : BytesV W cv C) (hE : EnvAt W) :
    Calls Tryd.prog 6 #[v, cv] W fun e w' => e = .returned (.bool true) ∧ Below W.heap.size W w' := by
  have HE := Lib.hid hE
  have CL := Lib.hid (letters39_any R v W hV)
  obtain ⟨hl1, hl2⟩ := lettersF_len R
  have hgood := lettersF_good R
  obtain ⟨L0, hL⟩ : ∃ L, lettersF R = L := ⟨_, rfl⟩
  rw [hL] at CL hl1 hl2 hgood
  have HL2 := Lib.hid hl2
  have HG0 := Lib.hid hgood
  have HL1 := Lib.hid hl1
  obtain ⟨ca, cc, rfl, hcc1, hcc2⟩ := hC.sl
  have hcall := fun h0 => hC.all h0
  obtain ⟨m, hm⟩ : ∃ m, C.length = m := ⟨_, rfl⟩
  rw [hm] at hcall hcc1 ⊢
  unfold maxLen at hcc2
  have HM := Lib.hid hm
  have HCa := Lib.hid hcall
  obtain ⟨q, hq⟩ : ∃ q, min m 10 = q := ⟨_, rfl⟩
  have hq10 : q ≤ 10 := by omega
  have hqm : q ≤ m := by omega
  have hmi : min (m : Int) 10 = (q : Int) := by omega
  have hmx : max (q : Int) 0 = (q : Int) := by omega
  obtain ⟨i0, hi, hz0, hz1, hz2⟩ := info_parts' infoS
  clear hV hE hL hl1 hl2 hgood hC hcall hm hq
  go_enter Tryd.func6, Tryd.ntmps6
  go_wp2_with fail
  refine CL.out.mono ?_
  rintro e w1 ⟨lv, rfl, hk0⟩
  have K0 := Lib.hid hk0
  clear hk0 CL
  go_wp2_with fail
  clear hmi hmx
  go_loopw [5, 6, 7, 27] (fun v5 _ _ v27 wr => ∃ (i : Nat) (L : List (List UInt8)), i ≤ q ∧ v27 = .int .i64 (i : Int) ∧ L.length ≤ 30 + i ∧ GoodP L ∧ (∀ l ∈ L, l.length ≤ 6) ∧ Kp [] [⟨v5, 9, 1, L.length, L.map sv⟩] W wr) (fun _ _ _ v27 _ => q - (intOf v27).toNat)
  case atStart => exact ⟨0, L0, by omega, rfl, HL1.out, HG0.out, HL2.out, K0.out⟩
  case round =>
    obtain ⟨i, L, hi', rfl, hl1, hg, hl2, hk⟩ := hrel
    obtain ⟨a5, c5, rfl⟩ : ∃ a c, u5 = .slice a L.length c := own_slice (hk.row 0 rfl)
    have HG := Lib.hid hg
    have HL := Lib.hid hl2
    have HK := Lib.hid hk
    obtain ⟨n, hn⟩ : ∃ n, L.length = n := ⟨_, rfl⟩
    have HN := Lib.hid hn
    rw [hn] at hl1 HK ⊢
    clear hg hl2 hk hn K0 HG0 HL2 HL1
    by_cases hlt : i < q
    · obtain ⟨b, o, c', e1, _, _, hb, hcell⟩ := HCa.out (by omega)
      simp only [Value.slice.injEq] at e1
      obtain ⟨rfl, _, rfl⟩ := e1
      obtain ⟨y, hy⟩ : ∃ y, C[i]? = some y := ⟨_, List.getElem?_eq_getElem (by rw [HM.out]; omega)⟩
      have k0 : wr.cell? ⟨b, o + i, none⟩ = some (.int .u8 (y.toNat : Int)) := (HK.out.below.cell (p := ⟨b, o + i, none⟩) hb).trans (hcell i (u8v y) (by rw [List.getElem?_map, hy]; rfl))
      have hbw := Nat.lt_of_lt_of_le hb HK.out.below.size
      have hyb1 : y.toNat ≤ 255 := by have := y.toNat_lt; omega
      obtain ⟨yn, hyn⟩ : ∃ k, y.toNat = k := ⟨_, rfl⟩
      rw [hyn] at k0 hyb1
      have hyb : (0 : Int) ≤ (yn : Int) ∧ (yn : Int) ≤ 255 := by omega
      clear hcell hy hyn
      by_cases hin : i < n
      · obtain ⟨x, hx⟩ : ∃ x, L[i]? = some x := ⟨_, List.getElem?_eq_getElem (by rw [HN.out]; exact hin)⟩
        have hxm := List.mem_of_getElem? hx
        have hx1 := (HG.out x hxm).1
        have hx6 := HL.out x hxm
        obtain ⟨g, rfl, -, hnc, hcm, hgl⟩ := own_some (HK.out.row 0 rfl) (by dsimp only; omega)
        have k1 : wr.cell? ⟨g, i, none⟩ = some (.string (bs x)) := own_cell (HK.out.row 0 rfl) (by rw [List.getElem?_map, hx]; rfl)
        obtain ⟨k, hkk⟩ : ∃ k, yn % x.length = k := ⟨_, rfl⟩
        have hkx : k < x.length := by rw [← hkk]; exact Nat.mod_lt _ (by omega)
        have hsz : (bs x).size = x.length := rfl
        have hk1 : Int.tmod (yn : Int) ((bs x).size : Int) = (k : Int) := by rw [hsz, ← hkk]; exact (Int.ofNat_tmod _ _).symm
        have hg2 := Lib.hid (good_snoc HG.out hxm hkx)
        have hd := extract_drop x k
        have hl6 := Lib.hid (show ∀ l ∈ L ++ [x.drop k], l.length ≤ 6 from fun l hl => by
          rcases List.mem_append.1 hl with hl | hl
          · exact HL.out l hl
          · rw [List.mem_singleton.1 hl, List.length_drop]; omega)
        obtain ⟨sx, hsx⟩ : ∃ s, bs x = s := ⟨_, rfl⟩
        rw [hsx] at k1 hsz hk1 hd
        have HD := Lib.hid hd
        have hs0 : ((sx.size : Int) == 0) = false := by rw [beq_eq_false_iff_ne]; omega
        have hs0' : ¬ sx.size = 0 := by omega
        have hks : (k : Int) ≤ (sx.size : Int) := by omega
        have hin' : (i : Int) < (n : Int) := by omega
        have hyw : IntKind.i64.wrap (yn : Int) = (yn : Int) := by rw [IntKind.wrap_i64]; omega
        have hL10 : n ≤ 60 := by omega
        clear hx hxm hd hsx hkk hx1 hsz hkx hx6
        have KE := Lib.hid (HK.out.drew.allocAt wr.heap.size rfl (.cells #[.string (sx.extract k sx.size)] 9))
        go_upto_region 6 with fail
        go_region_law (first
          | (refine step_append_kp (by rfl) (.tmp 36) (.tmp 50) 22 (by rfl) KE.out i0 (.string ⟨#[]⟩) 16 Tryd.underlying22 hi hz0 hz1 hz2 (by rfl) (by decide) (by rfl) 0 _ _ _ (by rfl) 1 1 (by rfl) (by rfl) (by simp [Value.oneCell']) (by omega) (by omega) (by omega) ?_; intro gq capq w9 hk; have K9 := Lib.hid hk.drop; clear hk))
        all_goals
          go_wp2_with fail
          go_roundw
          case rel =>
            refine ⟨i + 1, L ++ [x.drop k], by omega, by go_num, by rw [List.length_append, HN.out]; simp; omega, hg2.out, hl6.out, ?_⟩
            rw [svs_snoc, List.length_append, HN.out, ← HD.out]
            exact K9.out
          case measure => simp [intOf]; omega
      · have hin' : ¬ (i : Int) < (n : Int) := by omega
        go_wp2_with fail
        go_roundw
        case rel => exact ⟨i + 1, L, by omega, by go_num, by rw [HN.out]; omega, HG.out, HL.out, by rw [HN.out]; exact HK.out⟩
        case measure => simp [intOf]; omega
    · obtain rfl : i = q := by omega
      have hn40 : n ≤ 40 := by omega
      clear hlt hi' HCa HM hl1
      obtain ⟨mx, hmx⟩ := (HE.out.keep HK.out.below).mx
      have CA := Lib.hid (abbrs_any L (.slice a5 n c5) wr mx (by have := SlV.of_own (HK.out.row 0 rfl); unfold StrV; rw [HN.out]; exact this) (by rw [HN.out]; omega) (fun l hl => by have := HL.out l hl; omega) hmx)
      obtain ⟨S, hS⟩ : ∃ S, bs (abbrsS L) = S := ⟨_, rfl⟩
      have HS := Lib.hid hS
      obtain ⟨E, hEe⟩ : ∃ E, abbrsE L = E := ⟨_, rfl⟩
      have HEe := Lib.hid hEe
      obtain ⟨al, hal⟩ : ∃ k, (abbrsA L).length = k := ⟨_, rfl⟩
      have HAl := Lib.hid hal
      rw [hS, hEe, hal] at CA
      clear hmx hS hEe hal
      go_wp2_with fail
      refine CA.out.mono ?_
      rintro e w2 ⟨ov, rfl, hk2⟩
      obtain ⟨oa, oc, rfl⟩ : ∃ a c, ov = .slice a al c := own_slice (hk2.row 0 rfl)
      have K2 := Lib.hid (HK.out.adopt hk2)
      have hEnt : ∀ args w, (callFunc 21 args).run Tryd.prog w = .ok (.enter 21 args) w := enters_of Tryd.func21 (by kernel_rfl) rfl
      have HEnt := Lib.hid hEnt
      clear hk2 CA HK hEnt
      go_wp2_with fail
      go_loopw [11, 12, 13, 14, 61] (fun v11 _ _ _ v61 X => ∃ j : Nat, j ≤ n ∧ v61 = .int .i64 (j : Int) ∧ v11 = .int .i64 (lenT L j : Int) ∧ Kp [] [⟨.slice oa al oc, 3, 1, al, ints (abbrsA L)⟩, ⟨.slice a5 n c5, 9, 1, n, L.map sv⟩] W X) (fun _ _ _ _ v61 _ => n - (intOf v61).toNat)
      case atStart => exact ⟨0, by omega, rfl, by unfold lenT; simp [firsts], K2.out⟩
      case round => as_aux_lemma =>
        obtain ⟨j, hj, rfl, rfl, hk⟩ := hrel
        have HX := Lib.hid hk
        clear hk K2
        have hlt7 := lenT_le L HL.out j
        by_cases hlt : j < n
        · obtain ⟨x, hx⟩ : ∃ x, L[j]? = some x := ⟨_, List.getElem?_eq_getElem (by rw [HN.out]; exact hlt)⟩
          have hxm := List.mem_of_getElem? hx
          have hx6 := HL.out x hxm
          obtain ⟨g, rfl, -, hnc, hcm, hgl⟩ := own_some (HX.out.row 1 rfl) (by dsimp only; omega)
          have k1 : wr.cell? ⟨g, j, none⟩ = some (.string (bs x)) := own_cell (HX.out.row 1 rfl) (by rw [List.getElem?_map, hx]; rfl)
          have KA := Lib.hid (HX.out.allocAt wr.heap.size rfl (.cells #[.string (bs x)] 9))
          have k2 : (wr.alloc (.cells #[.string (bs x)] 9)).cell? ⟨wr.heap.size, 0, none⟩ = some (.string (bs x)) := cells_at (KA.out.at 0 rfl) 0
          have hVX : StrV (wr.alloc (.cells #[.string (bs x)] 9)) (.slice (some ⟨g, 0, none⟩) n c5) L := by
            have := SlV.of_own (KA.out.row 1 rfl)
            unfold StrV
            rw [HN.out]
            exact this
          have CI := Lib.hid (index_strs L x (.slice (some ⟨g, 0, none⟩) n c5) _ hVX hxm)
          have CF := Lib.hid (containsFunc_any 21 #[.pointer (some ⟨wr.heap.size, 0, none⟩)] (fun y => decide (y ≠ x) && x.isSuffixOf y) L (.slice (some ⟨g, 0, none⟩) n c5) _ hVX HEnt.out (fun l hl => endP_any x l wr.heap.size _ (by have := HL.out l hl; omega) (KA.out.at 0 rfl)) (by rw [HN.out]; omega))
          have hst := lenT_step hx
          have hsz : (bs x).size = x.length := rfl
          have hce : L.any (fun y => decide (y ≠ x) && x.isSuffixOf y) = endB L x := rfl
          rw [hce] at CF
          have HST := Lib.hid hst
          obtain ⟨p, hp⟩ : ∃ p, posA L x = p := ⟨_, rfl⟩
          rw [hp] at CI HST
          obtain ⟨eb, heb⟩ : ∃ e, endB L x = e := ⟨_, rfl⟩
          rw [heb] at CF HST
          obtain ⟨sx, hsx⟩ : ∃ s, bs x = s := ⟨_, rfl⟩
          rw [hsx] at k1 k2 CI CF KA hsz
          obtain ⟨ln, hln⟩ : ∃ k, lenT L j = k := ⟨_, rfl⟩
          rw [hln] at HST hlt7 ⊢
          clear hx hxm hVX hst hce hp heb hsx hln
          by_cases hpj : p = j
          · cases eb
            · have hs := Lib.hid (HST.out.trans (if_pos ⟨hpj, rfl⟩))
              subst hpj
              have hlen : ((ln : Int) + ((sx.size : Int) + 1)) = ((ln + (x.length + 1) : Nat) : Int) := by omega
              have hsz6 : sx.size ≤ 6 := by omega
              have HLen := Lib.hid hlen
              clear HST hsz hx6 hlen
              go_wp2_with fail
              refine CI.out.mono ?_
              rintro e w3 ⟨rfl, rfl⟩
              go_wp2_with fail
              refine CF.out.mono ?_
              rintro e w3 ⟨rfl, rfl⟩
              go_wp2_with fail
              go_roundw
              case rel => exact ⟨p + 1, by omega, by go_num, by rw [hs.out, ← HLen.out], KA.out.drop⟩
              case measure => simp [intOf]; omega
            · have hs := Lib.hid (HST.out.trans (if_neg (fun q => by cases q.2)))
              subst hpj
              clear HST hsz hx6
              go_wp2_with fail
              refine CI.out.mono ?_
              rintro e w3 ⟨rfl, rfl⟩
              go_wp2_with fail
              refine CF.out.mono ?_
              rintro e w3 ⟨rfl, rfl⟩
              go_wp2_with fail
              go_roundw
              case rel => exact ⟨p + 1, by omega, by go_num, by rw [hs.out], KA.out.drop⟩
              case measure => simp [intOf]; omega
          · have hs := Lib.hid (HST.out.trans (if_neg (fun q => hpj q.1)))
            have hpj' : ¬ ((p : Int) = (j : Int)) := by omega
            clear HST hsz hx6 CF
            go_wp2_with fail
            refine CI.out.mono ?_
            rintro e w3 ⟨rfl, rfl⟩
            go_wp2_with fail
            go_roundw
            case rel => exact ⟨j + 1, by omega, by go_num, by rw [hs.out], KA.out.drop⟩
            case measure => simp [intOf]; omega
        · obtain rfl : j = n := by omega
          have hla := lenT_all (i := j) (by rw [HN.out]; exact Nat.le_refl _) HG.out
          obtain ⟨T, hT⟩ : ∃ k, lenT L j = k := ⟨_, rfl⟩
          rw [hT] at hla hlt7 ⊢
          have hgb := good_bad HG.out
          clear hT hlt hj HEnt
          by_cases hbig : 255 < T
          · obtain ⟨hE2, hS2, hA2⟩ := abbrs_many hgb (by omega)
            have hEq : E = 7 := by rw [← HEe.out, hE2]
            have hSq : S = ⟨#[]⟩ := by rw [← HS.out, hS2]; rfl
            have hAq : al = 0 := by rw [← HAl.out, hA2]; rfl
            subst hEq hSq hAq
            have hb2 : (255 : Int) < (T : Int) := by omega
            have CW := Lib.hid (works39_any wr (HE.out.keep HX.out.below))
            clear hE2 hS2 hA2 hbig hla hgb
            go_wp2_with fail
            refine CW.out.mono ?_
            rintro e w4 ⟨rfl, hB4⟩
            go_wp2_with fail
            refine bodyPost_ret (v := .bool true) (by simp [results, Tryd.results6, go_sem]) rfl ⟨rfl, HX.out.below.trans (hB4.mono HX.out.below.size)⟩
          · obtain ⟨hE2, hS2, hA2⟩ := abbrs_fine hgb (by omega)
            have hEq : E = 0 := by rw [← HEe.out, hE2]
            have hAq : al = j := by rw [← HAl.out, hA2, List.length_map, HN.out]
            have hSz : S.size = T := by rw [← HS.out, hS2, hla]; rfl
            have HSP := Lib.hid (show S = bs (abbrsP L) by rw [← HS.out, hS2])
            have HAL := Lib.hid hA2
            have hPl : (abbrsP L).length = T := hla.symm
            have HPl := Lib.hid hPl
            subst hEq
            subst hAq
            have hb2 : ¬ (255 : Int) < (T : Int) := by omega
            have hSz2 : (S.size : Int) = (T : Int) := by omega
            have hT255 : T ≤ 255 := by omega
            have HSz := Lib.hid hSz
            clear hE2 hS2 hA2 hbig hla hgb hPl HS HEe HAl hSz
            go_wp2_with fail
            go_loopw [15, 16, 17, 18, 117] (fun _ _ _ _ v117 X => ∃ j : Nat, j ≤ al ∧ v117 = .int .i64 (j : Int) ∧ Kp [] [⟨.slice oa al oc, 3, 1, al, ints (abbrsA L)⟩, ⟨.slice a5 al c5, 9, 1, al, L.map sv⟩] W X) (fun _ _ _ _ v117 _ => al - (intOf v117).toNat)
            case atStart => exact ⟨0, by omega, rfl, HX.out⟩
            case round => as_aux_lemma =>
              obtain ⟨j, hj, rfl, hk⟩ := hrel
              have HY := Lib.hid hk
              clear hk HX
              by_cases hlt : j < al
              · obtain ⟨x, hx⟩ : ∃ x, L[j]? = some x := ⟨_, List.getElem?_eq_getElem (by rw [HN.out]; exact hlt)⟩
                have hxm := List.mem_of_getElem? hx
                have hx6 := HL.out x hxm
                have hx0 := (HG.out x hxm).2
                obtain ⟨p, hp1, hp2, hp3⟩ := place_fine HG.out hxm
                rw [HPl.out] at hp2
                obtain ⟨g, rfl, -, -, -, hgl⟩ := own_some (HY.out.row 1 rfl) (by dsimp only; omega)
                obtain ⟨ga, rfl, -, -, -, hgal⟩ := own_some (HY.out.row 0 rfl) (by dsimp only; omega)
                have k1 : wr.cell? ⟨g, j, none⟩ = some (.string (bs x)) := own_cell (HY.out.row 1 rfl) (by rw [List.getElem?_map, hx]; rfl)
                have k2 : wr.cell? ⟨ga, j, none⟩ = some (.int .i64 (p : Int)) := own_cell (HY.out.row 0 rfl) (by unfold ints; rw [HAL.out, List.getElem?_map, List.getElem?_map, hx]; exact congrArg some (congrArg (Value.int .i64) hp1))
                obtain ⟨mx, hmx⟩ := (HE.out.keep HY.out.below).mx
                obtain ⟨xl, hxl⟩ : ∃ k, x.length = k := ⟨_, rfl⟩
                rw [hxl] at hp2 hp3 hx6
                have hdr : (abbrsP L).drop p = x ++ 0 :: (abbrsP L).drop (p + xl + 1) := by
                  have h1 := List.take_append_drop (xl + 1) ((abbrsP L).drop p)
                  rw [hp3, List.drop_drop] at h1
                  rw [← h1]
                  unfold w
                  rw [List.append_assoc]
                  rfl
                have hib : Lib.indexByte (S.extract p S.size).data.toList ((0 : Int).toNat.toUInt8) = (xl : Int) := by
                  rw [HSP.out, extract_drop, bs_list, hdr, ← hxl]
                  exact index_zero x _ hx0
                have hex : ((S.extract p (p + xl)).toList == (bs x).toList) = true := by
                  rw [beq_iff_eq, ByteArray.toList_eq, ByteArray.toList_eq, HSP.out, piece_is, Nat.add_sub_cancel_left, hdr, ← hxl, List.take_append_of_le_length (Nat.le_refl _), List.take_length, bs_list]
                have CB := Lib.hid (Tryd.strings_IndexByte (S.extract p S.size) 0 wr)
                rw [hib] at CB
                have CX := Lib.hid (Tryd.strings_Index S (bs x ++ ⟨#[0]⟩) mx wr (by omega) hmx)
                have hix : Lib.index S.data.toList (bs x ++ ⟨#[0]⟩).data.toList = (p : Int) := by rw [HSP.out, bs_list]; exact hp1
                rw [hix] at CX
                have hxsz : (bs x).size = xl := hxl
                obtain ⟨sx, hsx⟩ : ∃ s, bs x = s := ⟨_, rfl⟩
                rw [hsx] at k1 hex CX hxsz
                have hcat : ¬ 9223372036854775807 < sx.size + 1 := by omega
                have t1 : ¬ ((p : Int) < 0) := by omega
                have t2 : ¬ ((S.size : Int) ≤ (p : Int)) := by omega
                have t3 : (p : Int) ≤ (S.size : Int) := by omega
                have t4 : (p : Int) ≤ (p : Int) + (xl : Int) := by omega
                have t5 : (p : Int) + (xl : Int) ≤ (S.size : Int) := by omega
                have t6 : ¬ ((xl : Int) < 0) := by omega
                clear hx hxm hx0 hp1 hp3 hmx hdr hib hix hsx hxl hSz2 hxsz
                go_wp2_with fail
                refine CB.out.mono ?_
                rintro e w3 ⟨rfl, rfl⟩
                go_wp2_with fail
                refine CX.out.mono ?_
                rintro e w3 ⟨rfl, rfl⟩
                go_wp2_with fail
                go_roundw
                case rel => exact ⟨j + 1, by omega, by go_num, HY.out⟩
                case measure => simp [intOf]; omega
              · obtain rfl : j = al := by omega
                have CW := Lib.hid (works39_any wr (HE.out.keep HY.out.below))
                go_wp2_with fail
                refine CW.out.mono ?_
                rintro e w4 ⟨rfl, hB4⟩
                go_wp2_with fail
                refine bodyPost_ret (v := .bool true) (by simp [results, Tryd.results6, go_sem]) rfl ⟨rfl, HY.out.below.trans (hB4.mono HY.out.below.size)⟩
end Go.Proofs.YtkfgonbopgdmgaaDoor.Px
