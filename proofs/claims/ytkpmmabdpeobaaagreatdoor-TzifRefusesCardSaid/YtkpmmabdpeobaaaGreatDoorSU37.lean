/- The function pool.Abbrs. -/
import Derived.Test.YtkpmmabdpeobaaaGreatDoorSU36
import Derived.Laws.EntriesVeiled
namespace Go.Proofs.YtkpmmabdpeobaaaGreatDoor.Px
open Go.RowKit
open Po St
set_option maxHeartbeats 8000000 in
set_option maxRecDepth 100000 in
theorem abbrs_any (L : List (List UInt8)) (v : Value) (W : World) (mx : Int) (hV : StrV W v L) (hmax : L.length ≤ 100000) (hf : ∀ l ∈ L, l.length ≤ 1000000) (hm : W.cell? ⟨1, 0, none⟩ = some (.int .i64 mx)) :
 Calls Tryz.prog 37 #[v] W fun e w' => ∃ ov, e = .returned (.tuple #[.string (bs (abbrsS L)), ov, .int .i64 (abbrsE L)]) ∧ Kp [] [⟨ov, 3, 1, (abbrsA L).length, ints (abbrsA L)⟩] W w' := by
 have CP := Lib.hid (fun ent => containsFunc_any 74 #[] badB L v W hV ent (fun l _ => pred_any l W) (by omega))
 have CD := Lib.hid (diffS_any L v W hV (fun l hl => by have := hf l hl; unfold maxLen; omega) (by omega))
 obtain ⟨a, c, rfl, hc1, hc2⟩ := hV.slice
 have ent : ∀ args w, (callFunc 74 args).run Tryz.prog w = .ok (.enter 74 args) w := enters_of Tryz.func74 (by kernel_rfl) rfl
 have CP1 := Lib.hid (CP.out ent)
 have HF := Lib.hid hf
 have HM := Lib.hid hm
 clear CP ent hf hm hV hc1 hc2
 by_cases hbad : L.any badB = true
 · rw [hbad] at CP1
   have HE := Lib.hid (show abbrsE L = 2 by unfold abbrsE; rw [if_pos hbad])
   have hs : abbrsS L = [] := by unfold abbrsS; rw [HE.out]; rfl
   have ha : abbrsA L = [] := by unfold abbrsA; rw [HE.out]; rfl
   rw [hs, ha, HE.out, show bs ([] : List UInt8) = (⟨#[]⟩ : ByteArray) from rfl]
   clear hs ha hbad CD
   go_enter Tryz.func37, Tryz.ntmps37
   go_wp2_with fail
   refine CP1.out.mono ?_
   rintro e w1 ⟨rfl, rfl⟩
   go_wp2_with fail
   go_ret3
   exact ⟨_, rfl, (Kp.start W).fresh 3 1⟩
 · have hbad' : L.any badB = false := by cases h : L.any badB <;> simp_all
   rw [hbad'] at CP1
   have HP := Lib.hid (fun C h => pool_sorted (l := L) (C := C) hbad' h)
   have HG := Lib.hid (show ∀ s ∈ L, (0 : UInt8) ∉ s from fun s hs => by
    have := List.any_eq_false.1 hbad' s hs
    unfold badB at this
    simp only [Bool.not_eq_true, Bool.or_eq_false_iff] at this
    simpa using this.2)
   have HE := Lib.hid (show abbrsE L = if 255 < (abbrsP L).length then 7 else 0 by unfold abbrsE; rw [if_neg hbad])
   have HO := Lib.hid (show (diffA [] L).1 = firsts [] L from (firsts_diff L [] [] (fun x => by simp)).trans (by simp))
   obtain ⟨hil, hol⟩ := diffA_len L []
   have hat0 := diffA_at L []
   obtain ⟨O, hOe⟩ : ∃ O, (diffA [] L).1 = O := ⟨_, rfl⟩
   obtain ⟨I, hIe⟩ : ∃ I, (diffA [] L).2 = I := ⟨_, rfl⟩
   rw [hOe] at CD HO hol hat0
   rw [hIe] at CD hil hat0
   have HA := Lib.hid hat0
   have hol2 : O.length ≤ 100000 := by simp at hol; omega
   have hil2 : I.length ≤ 100000 := by omega
   have HI := Lib.hid hil
   have hmm := fun (n : Int) (w : World) => run_makeMap_hint (P := Tryz.prog) Tryz.underlying132 n w
   clear hbad hbad' hat0 hil hol hOe hIe
   go_enter Tryz.func37, Tryz.ntmps37
   go_wp2_with fail
   refine CP1.out.mono ?_
   rintro e w1 ⟨rfl, rfl⟩
   go_wp2_with fail
   refine CD.out.mono ?_
   rintro e w1 ⟨tv, iv, rfl, hk⟩
   obtain ⟨ta, tc, rfl⟩ : ∃ a c, tv = .slice a O.length c := own_slice (hk.row 0 rfl)
   obtain ⟨ia, ic, rfl⟩ : ∃ a c, iv = .slice a I.length c := own_slice (hk.row 1 rfl)
   have K1 := Lib.hid hk
   clear hk CD CP1
   have KQ := Lib.hid (Kq.of (((Km.of K1.out).alloc (.cells #[.pointer none, .slice none 0 0] 131)).made 9 3 |>.allocAt (w1.heap.size + 1 + 1) (by simp) (.cells #[.map (some (w1.heap.size + 1))] 132)) (fun c fz e => by injection e with _ h2 _; exact absurd h2 (by decide)) (fun r hr => by
    rcases List.mem_cons.1 hr with rfl | hr
    · exact ⟨by dsimp only; decide, by dsimp only; decide⟩
    · rw [List.mem_singleton.1 hr]; exact ⟨by dsimp only; decide, by dsimp only; decide⟩))
   rw [World.size_alloc] at KQ
   go_wp2_with fail
   obtain ⟨q, hq⟩ : ∃ q, w1.heap.size + 1 + 1 = q := ⟨_, rfl⟩
   obtain ⟨m, hm⟩ : ∃ m, w1.heap.size + 1 = m := ⟨_, rfl⟩
   obtain ⟨b, hb⟩ : ∃ b, w1.heap.size = b := ⟨_, rfl⟩
   rw [hq, hm, hb] at KQ
   rw [hq, hm, hb]
   generalize hX5 : World.alloc _ (Obj.cells #[Value.map (some m)] 132) = X5 at KQ ⊢
   clear hX5 hq hm hb K1 hmm
   have T0 := Lib.hid (show Pst [] (dsR (.slice ta O.length tc) (.slice ia I.length ic) O I) W b m q [] 0 (fun _ => none) X5 from ⟨0, _, Nat.le_refl _, KQ.out, FnOf.empty⟩)
   have SO := Lib.hid (show StrV X5 (.slice ta O.length tc) O from by
    have h := SlV.of_own (KQ.out.km.kp.row 0 rfl)
    unfold StrV
    exact h)
   refine (values_any ta O.length tc X5).mono ?_
   rintro e w2 ⟨rfl, rfl⟩
   have CS := Lib.hid (sortedStable_any O X5.heap.size (.slice ta O.length tc) (X5.alloc (.cells #[.slice ta O.length tc] 74)) (heap_new _ _) (StrV.keep SO.out ((Below.refl _ X5).alloc (Nat.le_refl _) _)) (by omega))
   unfold cmpV at CS
   have KQ2 := Lib.hid (KQ.out.keep ((Below.refl _ X5).alloc (Nat.le_refl _) (.cells #[.slice ta O.length tc] 74)))
   clear SO KQ
   go_wp2_with fail
   refine CS.out.mono ?_
   rintro e w3 ⟨sv3, C, rfl, hC, hk⟩
   obtain ⟨sa, sc, rfl⟩ : ∃ a c, sv3 = .slice a C.length c := own_slice (hk.row 0 rfl)
   have KQ3 := Lib.hid (KQ2.out.adopt hk (fun r hr => by rw [List.mem_singleton.1 hr]; exact ⟨by dsimp only; decide, by dsimp only; decide⟩))
   have hCl : C.length ≤ 100000 := by rw [hC.len]; exact hol2
   have HC := Lib.hid hC
   clear hk hC CS KQ2
   go_wp2_with fail
   have hC0 : ∀ x ∈ C, x ∈ L := fun x hx => by
    have h1 := (HC.out.mem x).1 hx
    rw [HO.out] at h1
    exact ((firsts_mem L [] x).1 h1).1
   have HC0 := Lib.hid hC0
   obtain ⟨nC, hnC⟩ : ∃ k, C.length = k := ⟨_, rfl⟩
   rw [hnC] at KQ3 hCl
   have HNC := Lib.hid hnC
   have PF := Lib.hid (show poolF [] C = abbrsP L from HP.out C (by rw [← HO.out]; exact HC.out))
   obtain ⟨R9, hR9⟩ : ∃ R, ([⟨.slice sa nC sc, 9, 1, nC, C.map sv⟩] ++ dsR (.slice ta O.length tc) (.slice ia I.length ic) O I : List Rw) = R := ⟨_, rfl⟩
   rw [hR9] at KQ3
   have HR := Lib.hid hR9
   have T1 := Lib.hid (show Pst [] R9 W b m q [] 0 (fun _ => none) w3 from ⟨0, _, Nat.le_refl _, KQ3.out, FnOf.empty⟩)
   rw [hnC]
   clear hC0 hnC KQ3 hR9 T0 HP
   go_loopw [11, 30] (fun _ v30 wr => ∃ (i : Nat) (g : Lit → Option (DataW Unit)), i ≤ nC ∧ v30 = .int .i64 (i : Int) ∧ Pst [] R9 W b m q (poolF [] (C.take i)) i g wr ∧ (poolF [] (C.take i)).length ≤ 255 ∧ Placed g (poolF [] (C.take i)) (C.take i)) (fun _ v30 _ => nC - (intOf v30).toNat)
   case atStart => exact ⟨0, _, by omega, rfl, T1.out, (by show ([] : List UInt8).length ≤ 255; decide), fun s hs => (by cases hs)⟩
   case round =>
    obtain ⟨i, g, hi, rfl, hP, hl, hPl⟩ := hrel
    have HPs := Lib.hid hP
    have HPl := Lib.hid hPl
    have hFm := Lib.hid (pool_form (C.take i) [] (.inl rfl))
    clear hP hPl T1
    by_cases hlt : i < nC
    · obtain ⟨x, hx⟩ : ∃ x, C[i]? = some x := ⟨_, List.getElem?_eq_getElem (by rw [HNC.out]; exact hlt)⟩
      have hxL := HC0.out x (List.mem_of_getElem? hx)
      obtain ⟨n1, D1, hn1, hk1, hd1⟩ := HPs.out
      have hrow := hk1.km.kp.row 0 (r := ⟨.slice sa nC sc, 9, 1, nC, C.map sv⟩) (by rw [← HR.out]; rfl)
      obtain ⟨gs, rfl, -, -, -, -⟩ := own_some hrow (by dsimp only; omega)
      have k0 : wr.cell? ⟨gs, i, none⟩ = some (.string (bs x)) := own_cell hrow (by rw [List.getElem?_map, hx]; rfl)
      have htk : C.take (i + 1) = C.take i ++ [x] := by rw [List.take_add_one, hx]; rfl
      have CPut := Lib.hid (put_any mx HPs.out hFm.out (HG.out x hxL) (HF.out x hxL) hl (by omega) HM.out)
      have hPl2 := placed_step HPl.out hFm.out (HG.out x hxL)
      have hmono := pool_take_len C (i + 1)
      rw [htk, pool_snoc] at hmono
      rw [PF.out] at hmono
      obtain ⟨P2, hP2⟩ : ∃ P, Po.step (poolF [] (C.take i)) x = P := ⟨_, rfl⟩
      have hP2' : poolF [] (C.take (i + 1)) = P2 := by rw [htk, pool_snoc, hP2]
      rw [hP2] at CPut hPl2 hmono
      rw [← htk] at hPl2
      have HPl2 := Lib.hid hPl2
      have HP2 := Lib.hid hP2'
      have HMo := Lib.hid hmono
      obtain ⟨sx, hsx⟩ : ∃ s, bs x = s := ⟨_, rfl⟩
      rw [hsx] at CPut k0
      clear hx hxL hk1 hd1 hrow htk hPl2 hmono hP2 hP2' hsx
      by_cases hle : P2.length ≤ 255
      · rw [decide_eq_true hle] at CPut
        have HLe := Lib.hid hle
        clear hle
        go_wp2_with fail
        refine CPut.out.mono ?_
        rintro e w4 ⟨rfl, hp4⟩
        have HP4 := Lib.hid hp4
        clear hp4
        go_wp2_with fail
        go_roundw
        case rel =>
         refine ⟨i + 1, placeS g (keyS x) (Lib.index P2 (w x)), by omega, by go_num, ?_⟩
         rw [HP2.out]
         exact ⟨HP4.out, HLe.out, HPl2.out⟩
        case measure => simp [intOf]; omega
      · rw [decide_eq_false hle] at CPut
        have HE7 := Lib.hid (show abbrsE L = 7 by rw [HE.out, if_pos (by have := HMo.out; omega)])
        have hs : abbrsS L = [] := by unfold abbrsS; rw [HE7.out]; rfl
        have ha : abbrsA L = [] := by unfold abbrsA; rw [HE7.out]; rfl
        clear hle
        go_wp2_with fail
        refine CPut.out.mono ?_
        rintro e w4 ⟨rfl, hp4⟩
        have HP4 := Lib.hid hp4
        clear hp4
        go_wp2_with fail
        refine bodyPost_ret (v := .tuple #[.string ⟨#[]⟩, .slice none 0 0, .int .i64 7]) (by simp [results, Tryz.results37, go_sem]) rfl ⟨.slice none 0 0, ?_, ?_⟩
        · rw [hs, HE7.out]
          rfl
        · rw [ha]
          obtain ⟨n2, D2, -, hk2, -⟩ := HP4.out
          exact ((hk2.km.kp.pick (List.nil_sublist _)).less (List.nil_sublist _)).fresh 3 1
    · obtain rfl : i = nC := by omega
      have htk : C.take i = C := List.take_of_length_le (by rw [HNC.out]; exact Nat.le_refl _)
      rw [htk, PF.out] at HPs HPl
      rw [htk, PF.out] at hl
      have HE0 := Lib.hid (show abbrsE L = 0 by rw [HE.out, if_neg (by omega)])
      have hs : abbrsS L = abbrsP L := by unfold abbrsS; rw [if_pos HE0.out]
      have ha : abbrsA L = L.map (fun s => Lib.index (abbrsP L) (w s)) := by unfold abbrsA; rw [if_pos HE0.out]
      have HS := Lib.hid (And.intro hs ha)
      obtain ⟨n1, D1, hn1, hk1, hd1⟩ := HPs.out
      have HD1 := Lib.hid hd1
      have KF := Lib.hid (hk1.fresh 3 1 ⟨by decide, by decide⟩)
      obtain ⟨nI, hnI⟩ : ∃ k, I.length = k := ⟨_, rfl⟩
      have HNI := Lib.hid hnI
      have hnI2 : nI ≤ 100000 := by omega
      have HIL := Lib.hid (show nI = L.length by rw [← hnI]; exact HI.out)
      obtain ⟨j0, hj, hy0, hy1, hy2⟩ := info_parts' infoI
      have KF0 := Lib.hid (show Kq b (abbrsP L) [(q, .cells #[.map (some m)] 132 (0, 0))] (⟨.slice none 0 0, 3, 1, 0, ints ((L.take 0).map (fun s => Lib.index (abbrsP L) (w s)))⟩ :: R9) [⟨m, 9, 3, n1, D1⟩] W wr from KF.out)
      rw [hnI] at HR ⊢
      clear hk1 hd1 HPs htk hs ha KF hlt hnI
      go_wp2_with fail
      go_loopw [12, 14, 41] (fun v12 _ v41 wr => ∃ j : Nat, j ≤ nI ∧ v41 = .int .i64 (j : Int) ∧ Kq b (abbrsP L) [(q, .cells #[.map (some m)] 132 (0, 0))] (⟨v12, 3, 1, j, ints ((L.take j).map (fun s => Lib.index (abbrsP L) (w s)))⟩ :: R9) [⟨m, 9, 3, n1, D1⟩] W wr) (fun _ _ v41 _ => nI - (intOf v41).toNat)
      case atStart => exact ⟨0, by omega, rfl, KF0.out⟩
      case round =>
       obtain ⟨j, hj', rfl, hk⟩ := hrel
       obtain ⟨oa, oc, rfl⟩ : ∃ a c, u12 = .slice a j c := own_slice (hk.km.kp.row 0 rfl)
       have HK := Lib.hid hk
       clear hk KF0
       by_cases hlt : j < nI
       · obtain ⟨x, hx⟩ : ∃ x, L[j]? = some x := ⟨_, List.getElem?_eq_getElem (by rw [← HIL.out]; exact hlt)⟩
         obtain ⟨k, hIk, hOk⟩ := HA.out j x hx
         have hrowI := HK.out.km.kp.row 3 (r := ⟨.slice ia nI ic, 3, 1, I.length, nInt I⟩) (by rw [← HR.out]; rfl)
         have hrowO := HK.out.km.kp.row 2 (r := ⟨.slice ta O.length tc, 9, 1, O.length, O.map sv⟩) (by rw [← HR.out]; rfl)
         have hkO : k < O.length := (List.getElem?_eq_some_iff.1 hOk).1
         have hkO2 : k ≤ 100000 := by omega
         obtain ⟨gi, rfl, -, -, -, -⟩ := own_some hrowI (by dsimp only; have := HNI.out; omega)
         obtain ⟨go, rfl, -, -, -, hgo⟩ := own_some hrowO (by dsimp only; omega)
         have k0 : wr.cell? ⟨gi, j, none⟩ = some (.int .i64 (k : Int)) := own_cell hrowI (by unfold nInt; rw [List.getElem?_map, hIk]; rfl)
         have k1 : wr.cell? ⟨go, k, none⟩ = some (.string (bs x)) := own_cell hrowO (by rw [List.getElem?_map, hOk]; rfl)
         have kq := cells_at (HK.out.km.kp.at 0 rfl) 0
         have hxL := List.mem_of_getElem? hx
         have hkey := keyS_is (l := x) (by have := HF.out x hxL; unfold maxLen; omega)
         have hxC : x ∈ C := (HC.out.mem x).2 (List.mem_of_getElem? hOk)
         obtain ⟨cI, hrun, hat, hwf⟩ := (HK.out.km.map _ (List.mem_cons_self ..)).lookup_int str_keyed Tryz.underlying132 Tryz.underlying3 (zero_int _) hkey
         obtain ⟨cD, hrD, hatD, -⟩ := (HK.out.drew.km.map _ (List.mem_cons_self ..)).lookup_int str_keyed Tryz.underlying132 Tryz.underlying3 (zero_int _) hkey
         rw [HD1.out.val (keyS x) trivial, (HPl.out x hxC).1] at hat hatD
         obtain rfl : Lib.index (abbrsP L) (w x) = cD := by simpa using hatD
         obtain rfl : Lib.index (abbrsP L) (w x) = cI := by simpa using hat
         have ht := Lib.hid (show (L.take (j + 1)).map (fun s => Lib.index (abbrsP L) (w s)) = (L.take j).map (fun s => Lib.index (abbrsP L) (w s)) ++ [Lib.index (abbrsP L) (w x)] by rw [List.take_add_one, hx, List.map_append]; rfl)
         have hlenT : ((L.take j).map (fun s => Lib.index (abbrsP L) (w s))).length = j := by rw [List.length_map, List.length_take]; have := HIL.out; omega
         obtain ⟨ix, hix⟩ : ∃ i, Lib.index (abbrsP L) (w x) = i := ⟨_, rfl⟩
         rw [hix] at hrun hrD ht
         obtain ⟨sx, hsx⟩ : ∃ s, bs x = s := ⟨_, rfl⟩
         rw [hsx] at hrun hrD k1
         clear hx hIk hOk hrowI hrowO hkey hxC hat hatD hix hsx hxL
         have kq' : wr.cell? ⟨q, 0, none⟩ = some (.map (some m)) := kq
         have hrun' : (Instr.lookup 132 (.map (some m)) (.string sx) false).run Tryz.prog wr = .ok (.int .i64 ix) wr := hrun
         have hrunD : (Instr.lookup 132 (.map (some m)) (.string sx) false).run Tryz.prog wr.drew = .ok (.int .i64 ix) wr.drew := by rw [hrD]
         have KE := Lib.hid (HK.out.drew.allocAt wr.heap.size rfl (.cells #[.int .i64 ix] 3) (fun c fz e => by injection e with _ h2 _; exact absurd h2 (by decide)))
         clear kq hrun hwf hlenT hrD hrun'
         go_upto_region 17 with fail
         go_region_law (first
          | (refine step_look (by rfl) (.tmp 46) (.tmp 50) 132 (by rfl) (.map (some m)) (.string sx) (.int .i64 ix) (by rfl) (by rfl) hrunD ?_)
          | (refine step_append_kq (by rfl) (.tmp 45) (.tmp 52) 45 (by rfl) KE.out j0 (.int .i64 0) 8 Tryz.underlying45 hj hy0 hy1 hy2 (by rfl) (by decide) (by rfl) 0 _ _ _ (by rfl) 1 1 (by rfl) (by rfl) (by simp [Value.oneCell']) (by omega) (by omega) (by omega) ?_; intro gq capq w9 hk; have K9 := Lib.hid hk.drop; clear hk))
         all_goals
          go_wp2_with fail
          go_roundw
          case rel =>
           refine ⟨j + 1, by omega, by go_num, ?_⟩
           rw [ht.out, ints_snoc]
           exact K9.out
          case measure => simp [intOf]; omega
       · obtain rfl : j = nI := by omega
         have hLt : L.take j = L := List.take_of_length_le (by have := HIL.out; omega)
         have hk := HK.out
         rw [hLt, ← HS.out.2] at hk
         have HK2 := Lib.hid hk
         obtain ⟨Pb, hPb⟩ : ∃ Pb, bs (abbrsP L) = Pb := ⟨_, rfl⟩
         have CS' := Lib.hid (show Calls Tryz.prog 79 #[.pointer (some ⟨b, 0, none⟩)] wr fun e w' => e = .returned (.string Pb) ∧ (BuF W.heap.size b (abbrsP L) w' ∧ Below W.heap.size wr w' ∧ Lib.OthersKept 5 (some b) wr w') by
          rw [← hPb]
          exact Tryz.Builder_String_any_k W.heap.size b (abbrsP L) wr hk.bu hk.below.size)
         have HPb := Lib.hid hPb
         clear hk hLt hPb
         go_wp2_with fail
         refine CS'.out.mono ?_
         rintro e w9 ⟨rfl, h1, h2, h3⟩
         have K9 := Lib.hid (HK2.out.step h1 h2 h3)
         clear h1 h2 h3
         go_wp2_with fail
         refine bodyPost_ret (v := .tuple #[.string Pb, .slice oa j oc, .int .i64 0]) (by simp [results, Tryz.results37, go_sem]) rfl ⟨.slice oa j oc, ?_, ?_⟩
         · rw [HS.out.1, HPb.out, HE0.out]
         · have hk := (K9.out.km.kp.pick (List.nil_sublist _)).less (S := [⟨.slice oa j oc, 3, 1, j, ints (abbrsA L)⟩]) (List.Sublist.cons_cons _ (List.nil_sublist _))
           rw [show (abbrsA L).length = j by rw [HS.out.2, List.length_map, HIL.out]]
           exact hk
end Go.Proofs.YtkpmmabdpeobaaaGreatDoor.Px
