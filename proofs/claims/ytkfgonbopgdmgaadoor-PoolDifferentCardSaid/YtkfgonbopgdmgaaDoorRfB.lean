/- The reference's pools (analemmaref39): Abbrs. -/
import Derived.Test.YtkfgonbopgdmgaaDoorRfA
namespace Go.Proofs.YtkfgonbopgdmgaaDoor.Px
open Go.RowKit
open Po St

/-- the longest so far -/
def mostT (L : List (List UInt8)) (i : Nat) : Nat := mostL (L.take i)
theorem mostT_step {L : List (List UInt8)} {i : Nat} {x : List UInt8} (h : L[i]? = some x) : mostT L (i + 1) = max (mostT L i) x.length := by
  unfold mostT mostL
  rw [List.take_add_one, h, List.foldl_append]
  rfl
theorem pool_grow (P : List UInt8) (l : List (List UInt8)) : P.length ≤ (poolF P l).length := pool_len l P
/-- what is left of the document's order -/
def leftP (L : List (List UInt8)) (M i : Nat) : List (List UInt8) := (L.drop i).filter (fun s => decide (s.length = M)) ++ ordN L (M - 1)
theorem left_zero (L : List (List UInt8)) (M : Nat) (h : 0 < M) : leftP L M 0 = ordN L M := by
  obtain ⟨m, rfl⟩ : ∃ m, M = m + 1 := ⟨M - 1, by omega⟩
  rfl
theorem left_end (L : List (List UInt8)) (M i : Nat) (h : L.length ≤ i) : leftP L M i = ordN L (M - 1) := by unfold leftP; rw [List.drop_eq_nil_of_le h]; rfl
theorem left_step {L : List (List UInt8)} {i : Nat} {x : List UInt8} (h : L[i]? = some x) (M : Nat) (P : List UInt8) : poolF P (leftP L M i) = poolF (if x.length = M then Po.step P x else P) (leftP L M (i + 1)) := by
  obtain ⟨hi, hx⟩ := List.getElem?_eq_some_iff.1 h
  unfold leftP
  rw [List.drop_eq_getElem_cons hi, hx, List.filter_cons]
  by_cases e : x.length = M
  · rw [if_pos (by simpa using e), if_pos e]; rfl
  · rw [if_neg (by simpa using e), if_neg e]
set_option maxHeartbeats 16000000 in
set_option maxRecDepth 100000 in
theorem rabbrs_any (L : List (List UInt8)) (v : Value) (W : World) (hV : StrV W v L) (hmax : L.length ≤ 100000) (hf : ∀ l ∈ L, l.length ≤ 1000000) :
    Calls Tryd.prog 12 #[v] W fun e w' => ∃ ov, e = .returned (.tuple #[.string (bs (abbrsS L)), ov, .int .i64 (abbrsE L)]) ∧ Kp [] [⟨ov, 3, 1, (abbrsA L).length, ints (abbrsA L)⟩] W w' := by
  obtain ⟨a, c, rfl, hc1, hc2⟩ := hV.slice
  have hall := fun h0 => hV.all h0
  obtain ⟨n, hn⟩ : ∃ n, L.length = n := ⟨_, rfl⟩
  rw [hn] at hall hmax hc1 ⊢
  unfold maxLen at hc2
  have HA := Lib.hid hall
  have HN := Lib.hid hn
  have HF := Lib.hid hf
  have CS := Lib.hid (fun (s : List UInt8) (h : s.length ≤ 1000000) (w : World) => stands_any s (by omega) w)
  clear hV hall hn hf
  go_enter Tryd.func12, Tryd.ntmps12
  go_wp2_with fail
  go_loopw [5, 6] (fun v5 v6 wr => ∃ i : Nat, i ≤ n ∧ v6 = .int .i64 (i : Int) ∧ v5 = .int .i64 (mostT L i : Int) ∧ mostT L i ≤ 1000000 ∧ (L.take i).any badB = false ∧ W = wr) (fun _ v6 _ => n - (intOf v6).toNat)
  case atStart => exact ⟨0, by omega, rfl, rfl, (by unfold mostT mostL; simp), rfl, rfl⟩
  case round => as_aux_lemma =>
    obtain ⟨i, hi, rfl, rfl, hmo, hno, rfl⟩ := hrel
    have HNO := Lib.hid hno
    clear hno
    by_cases hlt : i < n
    · obtain ⟨b, o, c', e1, _, _, hb, hcell⟩ := HA.out (by omega)
      simp only [Value.slice.injEq] at e1
      obtain ⟨rfl, _, rfl⟩ := e1
      obtain ⟨x, hx⟩ : ∃ x, L[i]? = some x := ⟨_, List.getElem?_eq_getElem (by rw [HN.out]; exact hlt)⟩
      have k0 := hcell i x hx
      have hxl := HF.out x (List.mem_of_getElem? hx)
      have C := Lib.hid (CS.out x hxl W)
      have hms := mostT_step hx
      have ht := Lib.hid (show (L.take (i + 1)).any badB = badB x by rw [List.take_add_one, hx, List.any_append, HNO.out]; simp)
      have hall2 := Lib.hid (show badB x = true → L.any badB = true from fun e => List.any_eq_true.2 ⟨x, List.mem_of_getElem? hx, e⟩)
      have hsz : (bs x).size = x.length := rfl
      obtain ⟨mo, hmo2⟩ : ∃ k, mostT L i = k := ⟨_, rfl⟩
      obtain ⟨mo', hmo3⟩ : ∃ k, mostT L (i + 1) = k := ⟨_, rfl⟩
      rw [hmo2, hmo3] at hms
      rw [hmo2] at hmo ⊢
      have HM3 := Lib.hid hmo3
      obtain ⟨sx, hsx⟩ : ∃ s, bs x = s := ⟨_, rfl⟩
      rw [hsx] at k0 C hsz
      clear hcell hx hmo2 hmo3 hsx
      obtain ⟨q, hq⟩ : ∃ q, badB x = q := ⟨_, rfl⟩
      rw [hq] at C ht hall2
      clear hq
      cases q
      · go_wp2_with fail
        refine C.out.mono ?_
        rintro e w1 ⟨rfl, rfl⟩
        go_wp2_with fail
        go_roundw
        case rel =>
          refine ⟨i + 1, by omega, by go_num, ?_, ?_, ?_, (by first | trivial | rfl)⟩
          · rw [HM3.out, hms]
            congr 1
            omega
          · rw [HM3.out]; omega
          · rw [ht.out]
        case measure => simp [intOf]; omega
      · have HE := Lib.hid (show abbrsE L = 2 by unfold abbrsE; rw [if_pos (hall2.out rfl)])
        have hs : abbrsS L = [] := by unfold abbrsS; rw [HE.out]; rfl
        have ha : abbrsA L = [] := by unfold abbrsA; rw [HE.out]; rfl
        go_wp2_with fail
        refine C.out.mono ?_
        rintro e w1 ⟨rfl, rfl⟩
        go_wp2_with fail
        refine bodyPost_ret (v := .tuple #[.string ⟨#[]⟩, .slice none 0 0, .int .i64 2]) (by simp [results, Tryd.results12, go_sem]) rfl ⟨.slice none 0 0, ?_, ?_⟩
        · rw [hs, HE.out]
          rfl
        · rw [ha]
          exact (Kp.start _).fresh 3 1
    · obtain rfl : i = n := by omega
      have hLt : L.take i = L := List.take_of_length_le (by rw [HN.out]; exact Nat.le_refl _)
      have hno := HNO.out
      rw [hLt] at hno
      have hmt : mostT L i = mostL L := by unfold mostT; rw [hLt]
      rw [hmt] at hmo ⊢
      obtain ⟨mo, hmo2⟩ : ∃ k, mostL L = k := ⟨_, rfl⟩
      have HP := Lib.hid (show poolF [] (ordN L mo) = abbrsP L by rw [← hmo2]; rfl)
      rw [hmo2] at hmo ⊢
      have HE := Lib.hid (show abbrsE L = if 255 < (abbrsP L).length then 7 else 0 by unfold abbrsE; rw [if_neg (by rw [hno]; decide)])
      have HE7 := Lib.hid (show 255 < (abbrsP L).length → abbrsE L = 7 ∧ abbrsS L = [] ∧ abbrsA L = [] from fun h => by
        have h7 : abbrsE L = 7 := by rw [HE.out, if_pos h]
        exact ⟨h7, by unfold abbrsS; rw [h7]; rfl, by unfold abbrsA; rw [h7]; rfl⟩)
      have CP := Lib.hid (fun (P s : List UInt8) (hP : P.length ≤ 255) (hs : s.length ≤ 1000000) (w : World) => place_any P s (by omega) (by omega) w)
      clear hno HNO hLt hmt hmo2 CS hlt
      go_wp2_with fail
      go_loopw [7, 8, 9] (fun v7 v8 _ wr => ∃ (m : Nat) (P : List UInt8), m ≤ 1000000 ∧ v8 = .int .i64 (m : Int) ∧ v7 = .string (bs P) ∧ P.length ≤ 255 ∧ poolF P (ordN L m) = abbrsP L ∧ W = wr) (fun _ v8 _ _ => (intOf v8).toNat)
      case atStart => exact ⟨mo, [], hmo, rfl, rfl, by decide, HP.out, rfl⟩
      case round => as_aux_lemma =>
        obtain ⟨m, P, hm, rfl, rfl, hpl, hpo, rfl⟩ := hrel
        have HPo := Lib.hid hpo
        clear hpo HP
        by_cases hm0 : m = 0
        · subst hm0
          have hP : P = abbrsP L := HPo.out
          subst hP
          have HE0 := Lib.hid (show abbrsE L = 0 by rw [HE.out, if_neg (by omega)])
          have hs : abbrsS L = abbrsP L := by unfold abbrsS; rw [if_pos HE0.out]
          have ha : abbrsA L = L.map (fun s => Lib.index (abbrsP L) (w s)) := by unfold abbrsA; rw [if_pos HE0.out]
          have HS := Lib.hid (And.intro hs ha)
          obtain ⟨Pb, hPb⟩ : ∃ Pb, bs (abbrsP L) = Pb := ⟨_, rfl⟩
          have HPb := Lib.hid hPb
          rw [hPb]
          have CP2 := Lib.hid (fun (s : List UInt8) (h : s.length ≤ 1000000) (w : World) => CP.out (abbrsP L) s hpl h w)
          rw [hPb] at CP2
          obtain ⟨j0, hj, hy0, hy1, hy2⟩ := info_parts' infoI
          have KF0 := Lib.hid (show Kp [] [⟨.slice none 0 0, 3, 1, 0, ints ((L.take 0).map (fun s => Lib.index (abbrsP L) (w s)))⟩] W W from (Kp.start W).fresh 3 1)
          clear HPo hs ha hPb CP HE HE7
          go_wp2_with fail
          go_loopw [10, 11] (fun v10 v11 wr => ∃ j : Nat, j ≤ i ∧ v11 = .int .i64 (j : Int) ∧ Kp [] [⟨v10, 3, 1, j, ints ((L.take j).map (fun s => Lib.index (abbrsP L) (w s)))⟩] W wr) (fun _ v11 _ => i - (intOf v11).toNat)
          case atStart => exact ⟨0, by omega, rfl, KF0.out⟩
          case round => as_aux_lemma =>
            obtain ⟨j, hj', rfl, hk⟩ := hrel
            obtain ⟨oa, oc, rfl⟩ : ∃ a c, u10 = .slice a j c := own_slice (hk.row 0 rfl)
            have HK := Lib.hid hk
            clear hk KF0
            by_cases hlt : j < i
            · obtain ⟨b, o, c', e1, _, _, hb, hcell⟩ := HA.out (by omega)
              simp only [Value.slice.injEq] at e1
              obtain ⟨rfl, _, rfl⟩ := e1
              obtain ⟨x, hx⟩ : ∃ x, L[j]? = some x := ⟨_, List.getElem?_eq_getElem (by rw [HN.out]; exact hlt)⟩
              have k0 := (HK.out.below.cell (p := ⟨b, o + j, none⟩) hb).trans (hcell j x hx)
              have C := Lib.hid (CP2.out x (HF.out x (List.mem_of_getElem? hx)) wr)
              have ht := Lib.hid (show (L.take (j + 1)).map (fun s => Lib.index (abbrsP L) (w s)) = (L.take j).map (fun s => Lib.index (abbrsP L) (w s)) ++ [Lib.index (abbrsP L) (w x)] by rw [List.take_add_one, hx, List.map_append]; rfl)
              obtain ⟨ix, hix⟩ : ∃ i, Lib.index (abbrsP L) (w x) = i := ⟨_, rfl⟩
              rw [hix] at C ht
              obtain ⟨sx, hsx⟩ : ∃ s, bs x = s := ⟨_, rfl⟩
              rw [hsx] at C k0
              have K1 := Lib.hid (HK.out.allocAt wr.heap.size rfl (.cells #[.int .i64 ix] 3))
              clear hcell hx hix hsx
              go_wp2_with fail
              refine C.out.mono ?_
              rintro e w1 ⟨rfl, rfl⟩
              go_wp2_with (first
                | (at_builtin; refine wpList_append_own_at _ rfl (.tmp 74) (.tmp 81) 25 rfl W.heap.size 3 j0 (.int .i64 0) 1 8 Tryd.underlying25 hj hy0 hy1 hy2 rfl (by decide) _ j _ rfl (K1.out.row 0 rfl) ⟨wr.heap.size, 0, none⟩ 1 1 [.int .i64 ix] rfl rfl ?c1 ?c2 ?c3 ?c4 ?c5 ?_; (case c1 => exact World.news_of_block (K1.out.at 0 rfl)); (case c2 => simp [Value.oneCell']); (case c3 => unfold maxLen; omega); (case c4 => omega); (case c5 => exact K1.out.below.size); intro v' w1 hown hgrow _ hat; have K2 := Lib.hid (K1.out.append hown hgrow hat).drop; clear hown hgrow hat)
                | go_in)
              go_roundw
              case rel =>
                refine ⟨j + 1, by omega, by go_num, ?_⟩
                simp only [← List.map_take]
                rw [ht.out, ints_snoc]
                exact K2.out
              case measure => simp [intOf]; omega
            · obtain rfl : j = i := by omega
              have hLt : L.take j = L := List.take_of_length_le (by have := HN.out; omega)
              have hk := HK.out
              rw [hLt, ← HS.out.2] at hk
              have HK2 := Lib.hid hk
              clear hk hLt
              go_wp2_with fail
              refine bodyPost_ret (v := .tuple #[.string Pb, .slice oa j oc, .int .i64 0]) (by simp [results, Tryd.results12, go_sem]) rfl ⟨.slice oa j oc, ?_, ?_⟩
              · rw [HS.out.1, HPb.out, HE0.out]
              · rw [show (abbrsA L).length = j by rw [HS.out.2, List.length_map, HN.out]]
                exact HK2.out
        · have hpos : (0 : Int) < (m : Int) := by omega
          have h0 := Lib.hid (show poolF P (leftP L m 0) = abbrsP L by rw [left_zero L m (by omega)]; exact HPo.out)
          clear HPo hm0
          have HPos := Lib.hid hpos
          go_wp2_with fail
          clear hpos
          rename 0 < m => hpos2
          clear hpos2
          go_loopw [7, 9] (fun v7 v9 wr => ∃ (j : Nat) (Q : List UInt8), j ≤ i ∧ v9 = .int .i64 (j : Int) ∧ v7 = .string (bs Q) ∧ Q.length ≤ 255 ∧ poolF Q (leftP L m j) = abbrsP L ∧ W = wr) (fun _ v9 _ => i - (intOf v9).toNat)
          case atStart => exact ⟨0, P, by omega, rfl, rfl, hpl, h0.out, rfl⟩
          case round => as_aux_lemma =>
            obtain ⟨j, Q, hj, rfl, rfl, hql, hqo, rfl⟩ := hrel
            have HQo := Lib.hid hqo
            clear hqo h0
            by_cases hlt : j < i
            · obtain ⟨b, o, c', e1, _, _, hb, hcell⟩ := HA.out (by omega)
              simp only [Value.slice.injEq] at e1
              obtain ⟨rfl, _, rfl⟩ := e1
              obtain ⟨x, hx⟩ : ∃ x, L[j]? = some x := ⟨_, List.getElem?_eq_getElem (by rw [HN.out]; exact hlt)⟩
              have k0 := hcell j x hx
              have hxl := HF.out x (List.mem_of_getElem? hx)
              have C := Lib.hid (CP.out Q x hql hxl W)
              have hst := left_step hx m Q
              rw [HQo.out] at hst
              obtain ⟨I, hI⟩ : ∃ I, Lib.index Q (w x) = I := ⟨_, rfl⟩
              rw [hI] at C
              have hstep : Po.step Q x = if I < 0 then Q ++ w x else Q := by unfold Po.step; rw [hI]
              rw [hstep] at hst
              have hsz : (bs x).size = x.length := rfl
              have hqz : (bs Q).size = Q.length := rfl
              have hbw := Lib.hid (show bs Q ++ bs x ++ ⟨#[0]⟩ = bs (Q ++ w x) from bs_ext (by unfold w bs; simp))
              obtain ⟨sx, hsx⟩ : ∃ s, bs x = s := ⟨_, rfl⟩
              rw [hsx] at k0 C hsz hbw
              have HST := Lib.hid hst
              have HQs := Lib.hid hqz
              clear hcell hx hsx hI hstep hst hqz
              have hc1 : ¬ 9223372036854775807 < (bs Q).size + sx.size := by rw [HQs.out, hsz]; omega
              have hc2 : ¬ 9223372036854775807 < (bs Q).size + sx.size + 1 := by rw [HQs.out, hsz]; omega
              obtain ⟨Z, hZ⟩ : ∃ Z, bs Q ++ sx ++ ⟨#[0]⟩ = Z := ⟨_, rfl⟩
              have HZ := Lib.hid (show Z = bs (Q ++ w x) by rw [← hZ]; exact hbw.out)
              have hZs : Z.size = Q.length + x.length + 1 := by
                rw [HZ.out]
                show (Q ++ w x).length = _
                rw [List.length_append, w_len]
                omega
              by_cases hxm : x.length = m
              · by_cases hI0 : I < 0
                · have hst := HST.out
                  rw [if_pos hxm, if_pos hI0] at hst
                  have hmono := pool_grow (Q ++ w x) (leftP L m (j + 1))
                  rw [← hst] at hmono
                  have hst' := Lib.hid hst.symm
                  have hlz : (Q ++ w x).length = Q.length + x.length + 1 := by rw [List.length_append, w_len]; omega
                  have HLZ := Lib.hid hlz
                  have HMo := Lib.hid hmono
                  clear hst hmono HST hlz
                  by_cases hbig : 255 < Z.size
                  · obtain ⟨h7, hs7, ha7⟩ := HE7.out (by have := HMo.out; have := HLZ.out; omega)
                    have H7 := Lib.hid (And.intro h7 (And.intro hs7 ha7))
                    have hbig2 : (255 : Int) < (Z.size : Int) := by omega
                    clear h7 hs7 ha7 hZs hbig
                    go_wp2_with fail
                    refine C.out.mono ?_
                    rintro e w1 ⟨rfl, rfl⟩
                    go_wp2_with fail
                    refine bodyPost_ret (v := .tuple #[.string ⟨#[]⟩, .slice none 0 0, .int .i64 7]) (by simp [results, Tryd.results12, go_sem]) rfl ⟨.slice none 0 0, ?_, ?_⟩
                    · rw [H7.out.2.1, H7.out.1]
                      rfl
                    · rw [H7.out.2.2]
                      exact (Kp.start _).fresh 3 1
                  · have hbig2 : ¬ ((255 : Int) < (Z.size : Int)) := by omega
                    have HZs := Lib.hid hZs
                    have hbig3 := Lib.hid hbig
                    clear hZs hbig
                    go_wp2_with fail
                    refine C.out.mono ?_
                    rintro e w1 ⟨rfl, rfl⟩
                    go_wp2_with fail
                    go_roundw
                    case rel =>
                      refine ⟨j + 1, Q ++ w x, by omega, by go_num, by rw [HZ.out], by have := HZs.out; have := hbig3.out; have := HLZ.out; omega, hst'.out, (by first | trivial | rfl)⟩
                    case measure => simp [intOf]; omega
                · have hst := HST.out
                  rw [if_pos hxm, if_neg hI0] at hst
                  have hst' := Lib.hid hst.symm
                  have hql2 : ¬ ((255 : Int) < ((bs Q).size : Int)) := by rw [HQs.out]; omega
                  clear hst HST hZs hZ HZ
                  go_wp2_with fail
                  refine C.out.mono ?_
                  rintro e w1 ⟨rfl, rfl⟩
                  go_wp2_with fail
                  go_roundw
                  case rel => exact ⟨j + 1, Q, by omega, by go_num, rfl, hql, hst'.out, (by first | trivial | rfl)⟩
                  case measure => simp [intOf]; omega
              · have hst := HST.out
                rw [if_neg hxm] at hst
                have hst' := Lib.hid hst.symm
                have hql2 : ¬ ((255 : Int) < ((bs Q).size : Int)) := by rw [HQs.out]; omega
                clear hst HST hZs hZ HZ C
                go_wp2_with fail
                go_roundw
                case rel => exact ⟨j + 1, Q, by omega, by go_num, rfl, hql, hst'.out, (by first | trivial | rfl)⟩
                case measure => simp [intOf]; omega
            · obtain rfl : j = i := by omega
              have hqo := HQo.out
              rw [left_end L m j (by rw [HN.out]; exact Nat.le_refl _)] at hqo
              have HQ2 := Lib.hid hqo
              clear hqo
              go_wp2_with fail
              go_roundw
              case rel => exact ⟨m - 1, Q, by omega, by have := HPos.out; congr 1; omega, rfl, hql, HQ2.out, (by first | trivial | rfl)⟩
              case measure => have := HPos.out; simp [intOf]; omega
end Go.Proofs.YtkfgonbopgdmgaaDoor.Px
