/- The walk of the law PoolOrder. -/
import Derived.Test.YtkfgonbopgdmgaaDoorWkF
namespace Go.Proofs.YtkfgonbopgdmgaaDoor.Px
open Go.RowKit
open Go.ChangeShapes Go.WideShapes
open Po St Tb

theorem mem_turn (L : List (List UInt8)) (k : Nat) (x : List UInt8) : x ∈ L ↔ x ∈ L.drop k ++ L.take k := by
  conv => lhs; rw [← List.take_append_drop k L]
  simp only [List.mem_append]
  exact Or.comm
theorem mem_back (L : List (List UInt8)) (x : List UInt8) : x ∈ L ↔ x ∈ L.reverse := by simp
theorem mem_two (L : List (List UInt8)) (x : List UInt8) : x ∈ L ↔ x ∈ L ++ L := by simp
set_option maxHeartbeats 8000000 in
set_option maxRecDepth 100000 in
theorem poolOrder_walk {W : World} (R : List (List UInt8)) (v : Value) (hV : RowsV W v R) (by' : Int) (hby : (Lit.int .u8 by').wf = true) (hE : EnvAt W) :
    Calls Tryd.prog 7 #[v, .int .u8 by'] W fun e w' => e = .returned (.bool true) ∧ Below W.heap.size W w' := by
  have hb1 := bounds_u8 hby
  obtain ⟨bn, rfl⟩ : ∃ n : Nat, by' = (n : Int) := ⟨by'.toNat, by omega⟩
  have HE := Lib.hid hE
  have CL := Lib.hid (letters39_any R v W hV)
  obtain ⟨hl1, hl2⟩ := lettersF_len R
  have hgood := lettersF_good R
  obtain ⟨L, hL⟩ : ∃ L, lettersF R = L := ⟨_, rfl⟩
  rw [hL] at CL hl1 hl2 hgood
  have HL2 := Lib.hid hl2
  have HG := Lib.hid hgood
  obtain ⟨n, hn⟩ : ∃ n, L.length = n := ⟨_, rfl⟩
  have HN := Lib.hid hn
  rw [hn] at CL hl1
  clear hV hE hL hl2 hn hby hgood
  go_enter Tryd.func7, Tryd.ntmps7
  go_wp2_with fail
  refine CL.out.mono ?_
  rintro e w1 ⟨lv, rfl, hk0⟩
  obtain ⟨la, lc, rfl⟩ : ∃ a c, lv = .slice a n c := own_slice (hk0.row 0 rfl)
  have K0 := Lib.hid hk0
  have C1 := Lib.hid (fun mx hm => abbrs_any L (.slice la n lc) w1 mx (by have := SlV.of_own (hk0.row 0 rfl); unfold StrV; rw [HN.out]; exact this) (by rw [HN.out]; omega) (fun l hl => by have := HL2.out l hl; omega) hm)
  obtain ⟨mx, hmx⟩ := (HE.out.keep hk0.below).mx
  have C2 := Lib.hid (C1.out mx hmx)
  clear hk0 CL C1 hmx
  by_cases hn0 : n = 0
  · subst hn0
    have hL0 : L = [] := List.length_eq_zero_iff.1 HN.out
    subst hL0
    rw [show bs (abbrsS []) = ⟨#[]⟩ from rfl, show abbrsE [] = 0 from rfl] at C2
    go_wp2_with fail
    refine C2.out.mono ?_
    rintro e w2 ⟨ov, rfl, hk2⟩
    have B2 := Lib.hid (K0.out.below.trans (hk2.below.mono K0.out.below.size))
    have CW := Lib.hid (works39_any w2 (HE.out.keep B2.out))
    clear hk2 C2
    go_wp2_with fail
    refine CW.out.mono ?_
    rintro e w4 ⟨rfl, hB4⟩
    go_wp2_with fail
    refine bodyPost_ret (v := .bool true) (by simp [results, Tryd.results7, go_sem]) rfl ⟨rfl, B2.out.trans (hB4.mono B2.out.size)⟩
  obtain ⟨k, hk⟩ : ∃ k, bn % n = k := ⟨_, rfl⟩
  have hkn : k < n := by have := Nat.mod_lt bn (show 0 < n by omega); omega
  have hk1 : Int.tmod (bn : Int) (n : Int) = (k : Int) := by rw [← hk]; exact (Int.ofNat_tmod bn n).symm
  obtain ⟨g, rfl, -, hnc, hcm, hg⟩ := own_some (K0.out.row 0 rfl) (by dsimp only; omega)
  dsimp only at hnc
  unfold maxLen at hcm
  have hn1 : ((n : Int) == 0) = false := by rw [beq_eq_false_iff_ne]; omega
  have hck : ¬ lc = k := by omega
  have hkn' : (k : Int) ≤ (n : Int) := by omega
  have hkc : (k : Int) ≤ (lc : Int) := by omega
  clear hk hn0
  obtain ⟨S, hS⟩ : ∃ S, bs (abbrsS L) = S := ⟨_, rfl⟩
  have HS := Lib.hid hS
  obtain ⟨E, hEe⟩ : ∃ E, abbrsE L = E := ⟨_, rfl⟩
  have HEe := Lib.hid hEe
  rw [hS, hEe] at C2
  clear hS hEe
  go_wp2_with fail
  refine C2.out.mono ?_
  rintro e w2 ⟨ov, rfl, hk2⟩
  have K2 := Lib.hid (K0.out.keep hk2.below)
  clear hk2 C2 K0
  have hmapl : (L.map sv).length = n := by rw [List.length_map]; exact HN.out
  have p0 : SlV w2.drew (.slice (some ⟨g, 0, none⟩) n lc) 1 n (L.map sv) := SlV.of_own (K2.out.drew.row 0 rfl)
  have p1 := SlV.part p0 (i := k) (j := n) (by omega) (Nat.le_refl _) (by omega)
  rw [WideShapes.add_plain, Nat.zero_add, List.take_of_length_le (by rw [List.length_drop]; omega), ← List.map_drop] at p1
  have hdl : (L.drop k).length = n - k := by rw [List.length_drop, HN.out]
  have htl : (L.take k).length = k := by rw [List.length_take, HN.out]; omega
  have CC := Lib.hid (clone_strs (L.drop k) (.slice (some ⟨g, k, none⟩) (n - k) (lc - k)) w2.drew (by rw [hdl]; exact p1) (fun c e => by simp at e) (by omega))
  rw [hdl] at CC
  have HAp := Lib.hid (fun (v : Value) (X : World) (h : Kp [] [⟨v, 9, 1, n - k, (L.drop k).map sv⟩] w2.drew X) => append_strs h (L.take k) (.slice (some ⟨g, 0, none⟩) k lc) (by
    have p2 := SlV.part (p0.keep h.below) (i := 0) (j := k) (Nat.zero_le _) (by omega) (by omega)
    rw [WideShapes.add_plain, Nat.sub_zero, Nat.sub_zero, List.drop_zero, ← List.map_take] at p2
    rw [htl]
    exact p2) (fun c e => by simp at e) (by omega))
  rw [htl] at HAp
  clear p0 p1 hdl htl hmapl
  go_upto_region 6 with fail
  go_region_law (first
    | (go_simp; go_at_call 10; refine CC.out.mono ?_; rintro e w3 ⟨v3, rfl, hk3⟩; obtain ⟨v4, w4, hr4, hk4⟩ := HAp.out v3 w3 hk3; have HR4 := Lib.hid hr4; have K4 := Lib.hid hk4; clear hk3 hr4 hk4)
    | (refine step_append_eq (by rfl) (.tmp 47) (.tmp 50) 22 (by rfl) _ _ _ _ (by rfl) (by rfl) HR4.out ?_))
  have K5a := K2.out.drew.adopt K4.out
  rw [show n - k + k = n by omega] at K5a
  have hdt : (L.drop k).map sv ++ (L.take k).map sv = (L.drop k ++ L.take k).map sv := by rw [List.map_append]
  rw [hdt] at K5a
  obtain ⟨a10, c10, ev⟩ : ∃ a c, v4 = .slice a n c := own_slice (K5a.row 0 rfl)
  subst ev
  have K5 := Lib.hid K5a
  have C7 := Lib.hid (clone_strs L (.slice (some ⟨g, 0, none⟩) n lc) w4 (by rw [HN.out]; exact SlV.of_own (K5a.row 1 rfl)) (fun c e => by simp at e) (by rw [HN.out]; omega))
  clear hdt K5a K4 HR4 HAp CC K2
  go_wp2_with fail
  refine C7.out.mono ?_
  rintro e w6 ⟨v6, rfl, hk6⟩
  have CRv := Lib.hid (reverse_any L hk6 (by rw [HN.out]; omega) (by rw [HN.out]; omega))
  clear hk6 C7
  go_wp2_with fail
  refine CRv.out.mono ?_
  rintro e w7 ⟨rfl, hk7⟩
  have K7a := K5.out.adopt hk7
  rw [HN.out] at K7a
  obtain ⟨a11, c11, ev⟩ : ∃ a c, v6 = .slice a n c := own_slice (K7a.row 0 rfl)
  subst ev
  have K7 := Lib.hid K7a
  have C8 := Lib.hid (clone_strs L (.slice (some ⟨g, 0, none⟩) n lc) w7 (by rw [HN.out]; exact SlV.of_own (K7a.row 2 rfl)) (fun c e => by simp at e) (by rw [HN.out]; omega))
  clear K7a hk7 CRv K5
  go_wp2_with fail
  refine C8.out.mono ?_
  rintro e w8 ⟨v8, rfl, hk8⟩
  obtain ⟨v9, w9, hr9, hk9⟩ := append_strs hk8 L (.slice (some ⟨g, 0, none⟩) n lc) (by rw [HN.out]; exact SlV.of_own ((K7.out.keep hk8.below).row 2 rfl)) (fun c e => by simp at e) (by rw [HN.out]; omega)
  have HR9 := Lib.hid hr9
  have K9a := K7.out.adopt hk9
  rw [HN.out] at K9a
  obtain ⟨a61, c61, ev⟩ : ∃ a c, v9 = .slice a (n + n) c := own_slice (K9a.row 0 rfl)
  subst ev
  rw [show L.map sv ++ L.map sv = (L ++ L).map sv by rw [List.map_append]] at K9a
  have K9 := Lib.hid K9a
  have KB := Lib.hid (K9a.allocAt w9.heap.size rfl (.cells #[.slice a10 n c10, .slice a11 n c11, .slice a61 (n + n) c61] 22))
  clear K9a hk8 hk9 hr9 C8 K7
  have HPick := Lib.hid (show ∀ (i : Nat) (bb : Nat), i < 3 → ∃ a c m M, (#[.slice a10 n c10, .slice a11 n c11, .slice a61 (n + n) c61] : Array Value)[i]? = some (.slice a m c) ∧ List.length M = m ∧ m ≤ 60 ∧ (∀ x, x ∈ L ↔ x ∈ M) ∧
      ∀ X, Kp [(bb, .cells #[.slice a10 n c10, .slice a11 n c11, .slice a61 (n + n) c61] 22 (0, 0))] [⟨.slice a61 (n + n) c61, 9, 1, n + n, (L ++ L).map sv⟩, ⟨.slice a11 n c11, 9, 1, n, L.reverse.map sv⟩, ⟨.slice a10 n c10, 9, 1, n, (L.drop k ++ L.take k).map sv⟩, ⟨.slice (some ⟨g, 0, none⟩) n lc, 9, 1, n, L.map sv⟩] W X → SlV X (.slice a m c) 1 m (M.map sv) from fun i bb hi => by
    match i, hi with
    | 0, _ => exact ⟨a10, c10, n, L.drop k ++ L.take k, rfl, by rw [List.length_append, List.length_drop, List.length_take, HN.out]; omega, by omega, mem_turn L k, fun X h => SlV.of_own (h.row 2 rfl)⟩
    | 1, _ => exact ⟨a11, c11, n, L.reverse, rfl, by rw [List.length_reverse, HN.out], by omega, mem_back L, fun X h => SlV.of_own (h.row 1 rfl)⟩
    | 2, _ => exact ⟨a61, c61, n + n, L ++ L, rfl, by rw [List.length_append, HN.out], by omega, mem_two L, fun X h => SlV.of_own (h.row 0 rfl)⟩)
  go_wp2_with (at_builtin; refine wpList_append_eq rfl _ _ 22 rfl _ _ _ _ rfl rfl HR9.out ?_)
  obtain ⟨bb, hbb⟩ : ∃ b, w9.heap.size = b := ⟨_, rfl⟩
  rw [hbb] at KB ⊢
  obtain ⟨CS, hCS⟩ : ∃ CS : Array Value, #[.slice a10 n c10, .slice a11 n c11, .slice a61 (n + n) c61] = CS := ⟨_, rfl⟩
  rw [hCS] at KB HPick ⊢
  obtain ⟨RR, hRR⟩ : ∃ RR : List Rw, [⟨.slice a61 (n + n) c61, 9, 1, n + n, (L ++ L).map sv⟩, ⟨.slice a11 n c11, 9, 1, n, L.reverse.map sv⟩, ⟨.slice a10 n c10, 9, 1, n, (L.drop k ++ L.take k).map sv⟩, ⟨.slice (some ⟨g, 0, none⟩) n lc, 9, 1, n, L.map sv⟩] = RR := ⟨_, rfl⟩
  have KB2 := Lib.hid (show Kp [(bb, .cells CS 22 (0, 0))] RR W _ by rw [← hRR]; exact KB.out)
  rw [hRR] at HPick
  clear KB hCS hRR hbb K9 HR9 hck hkn' hkc hk1 hn1 hg hnc hcm
  go_loopw [13, 14, 15, 16, 64] (fun _ _ _ _ v64 wr => ∃ i : Nat, i ≤ 3 ∧ v64 = .int .i64 (i : Int) ∧ Kp [(bb, .cells CS 22 (0, 0))] RR W wr) (fun _ _ _ _ v64 _ => 3 - (intOf v64).toNat)
  case atStart => exact ⟨0, by omega, rfl, KB2.out⟩
  case round => as_aux_lemma =>
    obtain ⟨i, hi, rfl, hk⟩ := hrel
    have HK := Lib.hid hk
    clear hk KB2
    by_cases hlt : i < 3
    · obtain ⟨a, c, m, M, h1, h2, h3, h4, h5⟩ := HPick.out i bb hlt
      have hsl := h5 wr HK.out
      have k0 : wr.cell? ⟨bb, i, none⟩ = some (.slice a m c) := by rw [cells_at (HK.out.at 0 rfl)]; exact h1
      have hbl := HK.out.lt 0 rfl
      obtain ⟨mx, hmx⟩ := (HE.out.keep HK.out.below).mx
      have C := Lib.hid (abbrs_any M (.slice a m c) wr mx (by unfold StrV; rw [h2]; exact hsl) (by rw [h2]; omega) (fun l hl => by have := HL2.out l ((h4 l).2 hl); omega) hmx)
      obtain ⟨r1, r2, r3⟩ := same_res HG.out h4
      rw [HEe.out] at r1 r3
      rw [r1] at C
      have hTS : ((bs (abbrsS M)).size : Int) = (S.size : Int) := by rw [← HS.out]; exact congrArg Int.ofNat r2
      obtain ⟨T, hT⟩ : ∃ T, bs (abbrsS M) = T := ⟨_, rfl⟩
      rw [hT] at C hTS
      have hm60 : m ≤ 60 := h3
      clear h1 h3 h4 h5 hsl hmx r1 r2 hT
      by_cases hE0 : E = 0
      · have hAl := r3 hE0
        rw [h2] at hAl
        rw [hAl] at C
        subst hE0
        clear hAl h2 r3
        go_wp2_with fail
        refine C.out.mono ?_
        rintro e w3 ⟨ov3, rfl, hk3⟩
        obtain ⟨oa, oc, rfl⟩ : ∃ a c, ov3 = .slice a m c := own_slice (hk3.row 0 rfl)
        have K3 := Lib.hid (HK.out.keep hk3.below)
        clear hk3 C
        go_wp2_with fail
        go_roundw
        case rel => exact ⟨i + 1, by omega, by go_num, K3.out⟩
        case measure => simp [intOf]; omega
      · have hE1 : (E == 0) = false := by rw [beq_eq_false_iff_ne]; exact hE0
        clear h2 r3
        go_wp2_with fail
        refine C.out.mono ?_
        rintro e w3 ⟨ov3, rfl, hk3⟩
        have K3 := Lib.hid (HK.out.keep hk3.below)
        clear hk3 C
        go_wp2_with fail
        go_roundw
        case rel => exact ⟨i + 1, by omega, by go_num, K3.out⟩
        case measure => simp [intOf]; omega
    · obtain rfl : i = 3 := by omega
      have B0 := Lib.hid HK.out.below
      clear HK HPick hlt hi
      have hSs : S.size ≤ 255 := by rw [← HS.out]; exact abbrsS_len L
      have CT := Lib.hid (Tryd.strings_TrimSuffix S ⟨#[0]⟩ wr (by omega))
      have hT1 : (⟨(Lib.trimSuffix S.data.toList (⟨#[0]⟩ : ByteArray).data.toList).toArray⟩ : ByteArray) = bs (Lib.trimSuffix (abbrsS L) [0]) := by rw [← HS.out]; rfl
      rw [hT1] at CT
      have CSp := Lib.hid (split_any (partsP L) (Lib.trimSuffix (abbrsS L) [0]) 0 rfl (by
        have h1 := abbrsS_len L
        have h2 : (Lib.trimSuffix (abbrsS L) [0]).length ≤ (abbrsS L).length := by
          unfold Lib.trimSuffix
          split
          · rw [List.length_take]; omega
          · exact Nat.le_refl _
        omega) [] [] wr wr (Kp.start wr) (HE.out.keep B0.out).mx)
      have hps := parts_sorted HG.out
      have hpl := parts_len L
      obtain ⟨Q, hQ⟩ : ∃ Q, partsP L = Q := ⟨_, rfl⟩
      rw [hQ] at CSp hps hpl
      obtain ⟨T, hT⟩ : ∃ T, bs (Lib.trimSuffix (abbrsS L) [0]) = T := ⟨_, rfl⟩
      rw [hT] at CT CSp
      have HPs := Lib.hid hps
      obtain ⟨q, hq⟩ : ∃ q, Q.length = q := ⟨_, rfl⟩
      have HQ := Lib.hid hq
      rw [hq] at CSp hpl
      clear hT hT1 hps hQ hq hSs
      go_wp2_with fail
      refine CT.out.mono ?_
      rintro e w2 ⟨rfl, rfl⟩
      go_wp2_with fail
      refine CSp.out.mono ?_
      rintro e w3 ⟨gp, rfl, hk3⟩
      have HK3 := Lib.hid hk3
      clear hk3 CSp CT
      go_wp2_with fail
      go_loopw [18] (fun v18 X => ∃ j : Nat, j ≤ q ∧ v18 = .int .i64 ((j : Int) + 1) ∧ Kp [] [⟨.slice (some ⟨gp, 0, none⟩) q q, 9, 1, q, Q.map (fun l => .string (bs l))⟩] w2 X) (fun v18 _ => q + 1 - (intOf v18).toNat)
      case atStart => exact ⟨0, by omega, rfl, HK3.out⟩
      case round => as_aux_lemma =>
        obtain ⟨j, hj, rfl, hk⟩ := hrel
        have HX := Lib.hid hk
        clear hk HK3
        by_cases hlt : j + 1 < q
        · obtain ⟨x, hx⟩ : ∃ x, Q[j + 1]? = some x := ⟨_, List.getElem?_eq_getElem (by rw [HQ.out]; exact hlt)⟩
          obtain ⟨y, hy⟩ : ∃ y, Q[j]? = some y := ⟨_, List.getElem?_eq_getElem (by rw [HQ.out]; omega)⟩
          have hle : x.length ≤ y.length := by
            have h1 := List.getElem?_eq_some_iff.1 hx
            have h2 := List.getElem?_eq_some_iff.1 hy
            obtain ⟨l1, e1⟩ := h1
            obtain ⟨l2, e2⟩ := h2
            rw [← e1, ← e2]
            exact List.pairwise_iff_getElem.1 HPs.out j (j + 1) l2 l1 (Nat.lt_succ_self _)
          have k0 : wr.cell? ⟨gp, j + 1, none⟩ = some (.string (bs x)) := own_cell (HX.out.row 0 rfl) (by dsimp only; rw [List.getElem?_map, hx]; rfl)
          have k1 : wr.cell? ⟨gp, j, none⟩ = some (.string (bs y)) := own_cell (HX.out.row 0 rfl) (by dsimp only; rw [List.getElem?_map, hy]; rfl)
          have hgl : gp < wr.heap.size := block_lt_of_cell k0
          have hsz : ¬ (((bs y).size : Int) < ((bs x).size : Int)) := by
            have e1 : (bs x).size = x.length := rfl
            have e2 : (bs y).size = y.length := rfl
            omega
          obtain ⟨sx, hsx⟩ : ∃ s, bs x = s := ⟨_, rfl⟩
          obtain ⟨sy, hsy⟩ : ∃ s, bs y = s := ⟨_, rfl⟩
          rw [hsx] at k0 hsz
          rw [hsy] at k1 hsz
          have hj1 : (j : Int) + 1 < (q : Int) := by omega
          have hj2 : (0 : Int) ≤ (j : Int) + 1 := by omega
          clear hx hy hsx hsy hle
          go_upto_region 20 with fail
          go_quiet (fail)
          go_wp2_with fail
          go_roundw
          case rel => exact ⟨j + 1, by omega, by go_num, HX.out.call (below_drewN (Below.refl _ _) _) rfl rfl rfl rfl⟩
          case measure => simp [intOf]; omega
        · have hj1 : ¬ (j : Int) + 1 < (q : Int) := by omega
          have BX := Lib.hid (B0.out.trans (HX.out.below.mono B0.out.size))
          have CW := Lib.hid (works39_any wr (HE.out.keep BX.out))
          go_wp2_with fail
          refine CW.out.mono ?_
          rintro e w5 ⟨rfl, hB5⟩
          go_wp2_with fail
          refine bodyPost_ret (v := .bool true) (by simp [results, Tryd.results7, go_sem]) rfl ⟨rfl, BX.out.trans (hB5.mono BX.out.size)⟩
end Go.Proofs.YtkfgonbopgdmgaaDoor.Px
