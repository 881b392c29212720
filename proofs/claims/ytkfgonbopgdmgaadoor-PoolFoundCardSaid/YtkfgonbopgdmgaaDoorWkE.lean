/- The walk of the law PoolRefuses. -/
import Derived.Test.YtkfgonbopgdmgaaDoorWkB
import Derived.Test.YtkfgonbopgdmgaaDoorLtA
import Derived.Test.YtkfgonbopgdmgaaDoorInA
namespace Go.Proofs.YtkfgonbopgdmgaaDoor.Px
open Go.RowKit
open Go.ChangeShapes Go.WideShapes
open Po St Tb

theorem abbrs_bad {l : List (List UInt8)} (h : l.any badB = true) : abbrsE l = 2 ∧ abbrsS l = [] ∧ abbrsA l = [] := by
  have hE : abbrsE l = 2 := by unfold abbrsE; rw [if_pos h]
  exact ⟨hE, by unfold abbrsS; rw [hE]; rfl, by unfold abbrsA; rw [hE]; rfl⟩
theorem abbrs_many {l : List (List UInt8)} (h : l.any badB = false) (h2 : 255 < (abbrsP l).length) : abbrsE l = 7 ∧ abbrsS l = [] ∧ abbrsA l = [] := by
  have hE : abbrsE l = 7 := by unfold abbrsE; rw [if_neg (by rw [h]; decide), if_pos h2]
  exact ⟨hE, by unfold abbrsS; rw [hE]; rfl, by unfold abbrsA; rw [hE]; rfl⟩
theorem abbrs_fine {l : List (List UInt8)} (h : l.any badB = false) (h2 : (abbrsP l).length ≤ 255) : abbrsE l = 0 ∧ abbrsS l = abbrsP l ∧ abbrsA l = l.map (fun s => Lib.index (abbrsP l) (w s)) := by
  have hE : abbrsE l = 0 := by unfold abbrsE; rw [if_neg (by rw [h]; decide), if_neg (by omega)]
  exact ⟨hE, by unfold abbrsS; rw [hE]; rfl, by unfold abbrsA; rw [hE]; rfl⟩
/-- strings of one length stand in the order of the list -/
theorem ord_same {l : List (List UInt8)} {m : Nat} (h : ∀ s ∈ l, s.length = m) (hm : 0 < m) : ordN l m = l := by
  obtain ⟨k, rfl⟩ : ∃ k, m = k + 1 := ⟨m - 1, by omega⟩
  have h2 : ordN l k = [] := by
    cases e : ordN l k with
    | nil => rfl
    | cons s r =>
      have := ord_mem k s (by rw [e]; exact List.mem_cons_self ..)
      have := h s this.1
      omega
  unfold ordN
  rw [h2, List.append_nil, List.filter_eq_self.2 (fun s hs => by simpa using h s hs)]
theorem most_same {l : List (List UInt8)} {m : Nat} (h : ∀ s ∈ l, s.length = m) : l = [] ∨ mostL l = m := by
  cases l with
  | nil => exact .inl rfl
  | cons a r =>
    right
    have h1 : a.length ≤ mostL (a :: r) := (most_le (a :: r) 0).2 a (List.mem_cons_self ..)
    have h2 : ∀ (r : List (List UInt8)) (k : Nat), k ≤ m → (∀ s ∈ r, s.length = m) → r.foldl (fun m s => max m s.length) k ≤ m := by
      intro r
      induction r with
      | nil => intro k hk _; exact hk
      | cons b r ih =>
        intro k hk hr
        rw [List.foldl_cons]
        exact ih _ (by rw [hr b (List.mem_cons_self ..)]; omega) (fun s hs => hr s (List.mem_cons_of_mem _ hs))
    have h3 : mostL (a :: r) ≤ m := h2 (a :: r) 0 (Nat.zero_le _) h
    have h4 := h a (List.mem_cons_self ..)
    omega
theorem pool_same {l : List (List UInt8)} {m : Nat} (h : ∀ s ∈ l, s.length = m) (hm : 0 < m) : abbrsP l = poolF [] l := by
  unfold abbrsP
  rcases most_same h with rfl | e
  · rfl
  · rw [e, ord_same h hm]
theorem names_new : ((List.range 70).all fun n => decide (Lib.index ((namesL n).flatMap w) (w (nameL n)) < 0)) = true := by kernel_rfl
theorem names_good : ((List.range 100).all fun n => !badB (nameL n)) = true := by kernel_rfl
theorem names_pool : ∀ n, n ≤ 70 → poolF [] (namesL n) = (namesL n).flatMap w
  | 0, _ => rfl
  | n + 1, h => by
    have h1 := List.all_eq_true.1 names_new n (List.mem_range.2 (by omega))
    rw [namesL_succ, pool_snoc, names_pool n (by omega), List.flatMap_append]
    unfold Po.step
    rw [if_pos (of_decide_eq_true h1)]
    simp
theorem flat_same {l : List (List UInt8)} {m : Nat} (h : ∀ s ∈ l, s.length = m) : (l.flatMap w).length = l.length * (m + 1) := by
  induction l with
  | nil => simp
  | cons a r ih =>
    rw [List.flatMap_cons, List.length_append, w_len, h a (List.mem_cons_self ..), ih (fun s hs => h s (List.mem_cons_of_mem _ hs)), List.length_cons, Nat.add_mul]
    omega
theorem names_bad {n : Nat} (h : n ≤ 100) : (namesL n).any badB = false := by
  rw [List.any_eq_false]
  intro s hs
  unfold namesL at hs
  obtain ⟨i, hi, rfl⟩ := List.mem_map.1 hs
  have := List.all_eq_true.1 names_good i (List.mem_range.2 (by have := List.mem_range.1 hi; omega))
  simpa using this
theorem names_len {n : Nat} (h : n ≤ 70) : (abbrsP (namesL n)).length = 5 * n := by
  rw [pool_same (namesL_all (by omega)) (by decide), names_pool n h, flat_same (namesL_all (by omega)), namesL_len]
  omega
def bads : List (List UInt8) := [[], [0], [65, 66, 0], [0, 65, 66]]
theorem bads_bad : ∀ x ∈ bads, badB x = true := by decide
def rep (n : Nat) : List UInt8 := Lib.repeatL [120] n
theorem rep254 : abbrsE [rep 254] = 0 ∧ (abbrsS [rep 254]).length = 255 ∧ abbrsA [rep 254] = [0] := ⟨by kernel_rfl, by kernel_rfl, by kernel_rfl⟩
theorem rep255 : abbrsE [rep 255] = 7 := by kernel_rfl
theorem rep_len254 : (rep 254).length = 254 := by kernel_rfl
theorem rep_len255 : (rep 255).length = 255 := by kernel_rfl
theorem letters_len (r : List UInt8) : (lettersOf r 3 6).length ≤ 6 := by
  unfold lettersOf lettN
  rw [List.length_map, List.length_range]
  omega
theorem lettersF_len (R : List (List UInt8)) : (lettersF R).length ≤ 30 ∧ ∀ l ∈ lettersF R, l.length ≤ 6 := by
  unfold lettersF
  refine ⟨by rw [List.length_map, List.length_take]; omega, fun l hl => ?_⟩
  obtain ⟨r, _, rfl⟩ := List.mem_map.1 hl
  exact letters_len r
set_option maxHeartbeats 8000000 in
set_option maxRecDepth 100000 in
theorem poolRefuses_walk {W : World} (R : List (List UInt8)) (v : Value) (hV : RowsV W v R) (wh : Int) (hwh : (Lit.int .u8 wh).wf = true) (mn : Int) (hmn : (Lit.int .u8 mn).wf = true) (hE : EnvAt W) :
    Calls Tryd.prog 8 #[v, .int .u8 wh, .int .u8 mn] W fun e w' => e = .returned (.bool true) ∧ Below W.heap.size W w' := by
  have hb1 := bounds_u8 hwh
  have hb2 := bounds_u8 hmn
  obtain ⟨wn, rfl⟩ : ∃ n : Nat, wh = (n : Int) := ⟨wh.toNat, by omega⟩
  obtain ⟨mm, rfl⟩ : ∃ n : Nat, mn = (n : Int) := ⟨mn.toNat, by omega⟩
  have HE := Lib.hid hE
  have CL := Lib.hid (letters39_any R v W hV)
  obtain ⟨hl1, hl2⟩ := lettersF_len R
  obtain ⟨L, hL⟩ : ∃ L, lettersF R = L := ⟨_, rfl⟩
  rw [hL] at CL hl1 hl2
  have HL2 := Lib.hid hl2
  obtain ⟨n, hn⟩ : ∃ n, L.length = n := ⟨_, rfl⟩
  have HN := Lib.hid hn
  rw [hn] at CL hl1
  obtain ⟨k, hk⟩ : ∃ k, wn % (n + 1) = k := ⟨_, rfl⟩
  have hkn : k ≤ n := by have := Nat.mod_lt wn (show 0 < n + 1 by omega); omega
  have hk1 : Int.tmod (wn : Int) ((n : Int) + 1) = (k : Int) := by rw [← hk]; exact (Int.ofNat_tmod wn (n + 1)).symm
  obtain ⟨q, hq⟩ : ∃ q, mm % 70 = q := ⟨_, rfl⟩
  have hq70 : q < 70 := by omega
  have hq1 : Int.tmod (mm : Int) 70 = (q : Int) := by rw [← hq]; exact (Int.ofNat_tmod mm 70).symm
  clear hV hE hL hl2 hn hwh hmn hk hq
  go_enter Tryd.func8, Tryd.ntmps8
  go_wp2_with fail
  refine CL.out.mono ?_
  rintro e w1 ⟨lv, rfl, hk0⟩
  obtain ⟨la, lc, rfl⟩ : ∃ a c, lv = .slice a n c := own_slice (hk0.row 0 rfl)
  have K0 := Lib.hid hk0
  clear hk0 CL
  go_wp2_with fail
  clear hk1
  have KB := Lib.hid (K0.out.allocAt w1.heap.size rfl (.cells #[.string ⟨#[]⟩, .string ⟨#[0]⟩, .string ⟨#[65, 66, 0]⟩, .string ⟨#[0, 65, 66]⟩] 9))
  obtain ⟨bb, hbb⟩ : ∃ b, w1.heap.size = b := ⟨_, rfl⟩
  rw [hbb] at KB ⊢
  go_loopw [10, 11, 12, 13, 34] (fun _ _ _ _ v34 wr => ∃ i : Nat, i ≤ 4 ∧ v34 = .int .i64 (i : Int) ∧ Kp [(bb, .cells #[.string ⟨#[]⟩, .string ⟨#[0]⟩, .string ⟨#[65, 66, 0]⟩, .string ⟨#[0, 65, 66]⟩] 9 (0, 0))] [⟨.slice la n lc, 9, 1, n, L.map sv⟩] W wr) (fun _ _ _ _ v34 _ => 4 - (intOf v34).toNat)
  case atStart => exact ⟨0, by omega, rfl, KB.out⟩
  case round => as_aux_lemma =>
    obtain ⟨i, hi, rfl, hk⟩ := hrel
    have HK := Lib.hid hk
    clear hk KB K0
    by_cases hlt : i < 4
    · obtain ⟨x, hx⟩ : ∃ x, bads[i]? = some x := ⟨_, List.getElem?_eq_getElem (by show i < 4; exact hlt)⟩
      have hbx := bads_bad x (List.mem_of_getElem? hx)
      have k0 : wr.cell? ⟨bb, i, none⟩ = some (.string (bs x)) := by
        rw [cells_at (HK.out.at 0 rfl)]
        show (bads.map sv).toArray[i]? = _
        rw [List.getElem?_toArray, List.getElem?_map, hx]
        rfl
      have hbl := HK.out.lt 0 rfl
      have hxl : x.length ≤ 3 := by
        have : ∀ x ∈ bads, x.length ≤ 3 := by decide
        exact this x (List.mem_of_getElem? hx)
      have hany : (L.take k ++ x :: L.drop k).any badB = true := List.any_eq_true.2 ⟨x, by simp, hbx⟩
      obtain ⟨hE2, hS2, hA2⟩ := abbrs_bad hany
      have hLn := HN.out
      have hll : (L.take k ++ x :: L.drop k).length ≤ 100000 := by rw [List.length_append, List.length_take, List.length_cons, List.length_drop]; omega
      have hlf : ∀ l ∈ L.take k ++ x :: L.drop k, l.length ≤ 1000000 := fun l hl => by
        rcases List.mem_append.1 hl with hl | hl
        · have := HL2.out l (List.mem_of_mem_take hl); omega
        · rcases List.mem_cons.1 hl with rfl | hl
          · omega
          · have := HL2.out l (List.mem_of_mem_drop hl); omega
      have CC := Lib.hid (clone_strs L (.slice la n lc) wr (by rw [hLn]; exact SlV.of_own (HK.out.row 0 rfl)) (by rw [hLn]; exact own_nil (HK.out.row 0 rfl)) (by omega))
      have CI := Lib.hid (fun (M : List (Nat × Obj)) (w : World) (v : Value) (vb : Nat) (h : Kp ((vb, .cells #[.string (bs x)] 9 (0, 0)) :: M) [⟨v, 9, 1, L.length, L.map sv⟩] wr w) => insert_any L x k h (by omega) (by omega))
      have CA := Lib.hid (fun (v : Value) (w : World) (hv : StrV w v (L.take k ++ x :: L.drop k)) (hB : Below W.heap.size W w) => abbrs_any (L.take k ++ x :: L.drop k) v w (Classical.choose (HE.out.keep hB).mx) hv hll hlf (Classical.choose_spec (HE.out.keep hB).mx))
      rw [hE2, hS2, hA2, show bs ([] : List UInt8) = ⟨#[]⟩ from rfl] at CA
      obtain ⟨sx, hsx⟩ : ∃ s, bs x = s := ⟨_, rfl⟩
      rw [hsx] at k0 CI
      clear hx hbx hany hE2 hS2 hA2 hll hlf hxl hsx hLn
      go_wp2_with fail
      refine CC.out.mono ?_
      rintro e w2 ⟨v2, rfl, hk2⟩
      have K3 := Lib.hid (hk2.allocAt w2.heap.size rfl (.cells #[.string sx] 9))
      clear hk2 CC
      go_wp2_with fail
      refine (CI.out _ _ _ _ K3.out).mono ?_
      rintro e w3 ⟨v3, rfl, hv3, hB3⟩
      have B3 := Lib.hid (HK.out.below.trans (hB3.mono HK.out.below.size))
      have B33 := Lib.hid hB3
      have V3 := Lib.hid hv3
      clear hv3 hB3 K3 CI
      go_wp2_with fail
      refine (CA.out _ _ V3.out B3.out).mono ?_
      rintro e w4 ⟨ov, rfl, hk4⟩
      obtain ⟨oa, oc, rfl⟩ : ∃ a c, ov = .slice a 0 c := own_slice (hk4.row 0 rfl)
      have K4 := Lib.hid (HK.out.keep (B33.out.trans (hk4.below.mono B33.out.size)))
      clear hk4 CA V3
      go_wp2_with fail
      go_roundw
      case rel => exact ⟨i + 1, by omega, by go_num, K4.out⟩
      case measure => simp [intOf]; omega
    · obtain rfl : i = 4 := by omega
      have B0 := Lib.hid HK.out.below
      clear HK HL2 HN hlt hi
      have CN := Lib.hid (names_any q (by omega) wr (HE.out.keep B0.out))
      go_wp2_with fail
      refine CN.out.mono ?_
      rintro e w2 ⟨v2, rfl, hk2⟩
      have B2 := Lib.hid (B0.out.trans (hk2.below.mono B0.out.size))
      obtain ⟨mx2, hmx2⟩ := (HE.out.keep B2.out).mx
      have C3 := Lib.hid (abbrs_any (namesL q) v2 w2 mx2 (SlV.of_own (hk2.row 0 rfl)) (by rw [namesL_len]; omega) (fun l hl => by rw [namesL_all (by omega) l hl]; decide) hmx2)
      clear hk2 hmx2 CN
      have hnb := names_bad (n := q) (by omega)
      have hnl := names_len (n := q) (by omega)
      by_cases hq51 : 51 < q
      · obtain ⟨hE2, hS2, hA2⟩ := abbrs_many hnb (by omega)
        rw [hE2, hS2, hA2, show bs ([] : List UInt8) = ⟨#[]⟩ from rfl] at C3
        have hq2 : (51 : Int) < (q : Int) := by omega
        clear hnb hnl hE2 hS2 hA2 hq51
        go_wp2_with fail
        refine C3.out.mono ?_
        rintro e w3 ⟨ov, rfl, hk3⟩
        obtain ⟨oa, oc, rfl⟩ : ∃ a c, ov = .slice a 0 c := own_slice (hk3.row 0 rfl)
        have B3 := Lib.hid (B2.out.trans (hk3.below.mono B2.out.size))
        clear hk3 C3
        have CW := Lib.hid (works39_any w3 (HE.out.keep B3.out))
        go_wp2_with fail
        refine CW.out.mono ?_
        rintro e w4 ⟨rfl, hB4⟩
        go_wp2_with fail
        refine bodyPost_ret (v := .bool true) (by simp [results, Tryd.results8, go_sem]) rfl ⟨rfl, B3.out.trans (hB4.mono B3.out.size)⟩
      · obtain ⟨hE2, hS2, hA2⟩ := abbrs_fine hnb (by omega)
        have hSl : (bs (abbrsS (namesL q))).size = 5 * q := by rw [hS2]; exact hnl
        have hAl : (abbrsA (namesL q)).length = q := by rw [hA2, List.length_map, namesL_len]
        rw [hE2, hAl] at C3
        obtain ⟨S, hS⟩ : ∃ S, bs (abbrsS (namesL q)) = S := ⟨_, rfl⟩
        rw [hS] at C3 hSl
        have hq2 : ¬ (51 : Int) < (q : Int) := by omega
        clear hnb hnl hE2 hS2 hA2 hq51 hAl hS
        go_wp2_with fail
        refine C3.out.mono ?_
        rintro e w3 ⟨ov, rfl, hk3⟩
        obtain ⟨oa, oc, rfl⟩ : ∃ a c, ov = .slice a q c := own_slice (hk3.row 0 rfl)
        have B3 := Lib.hid (B2.out.trans (hk3.below.mono B2.out.size))
        clear hk3 C3
        have R1 := Lib.hid (show ∀ w : World, Calls Tryd.prog 32 #[.string ⟨#[120]⟩, .int .i64 254] w fun e w' => e = .returned (.string (bs (rep 254))) ∧ Below w.heap.size w w' from fun w => Tryd.strings_Repeat ⟨#[120]⟩ 254 w (by decide) (by decide))
        have R2 := Lib.hid (show ∀ w : World, Calls Tryd.prog 32 #[.string ⟨#[120]⟩, .int .i64 255] w fun e w' => e = .returned (.string (bs (rep 255))) ∧ Below w.heap.size w w' from fun w => Tryd.strings_Repeat ⟨#[120]⟩ 255 w (by decide) (by decide))
        obtain ⟨r1, hr1⟩ : ∃ r, bs (rep 254) = r := ⟨_, rfl⟩
        obtain ⟨r2, hr2⟩ : ∃ r, bs (rep 255) = r := ⟨_, rfl⟩
        have HR1 := Lib.hid hr1
        have HR2 := Lib.hid hr2
        rw [hr1] at R1
        rw [hr2] at R2
        clear hr1 hr2
        go_wp2_with fail
        refine (R1.out _).mono ?_
        rintro e w4 ⟨rfl, hB4⟩
        have B4 := Lib.hid (B3.out.trans (hB4.mono B3.out.size))
        clear hB4
        have K4 := Lib.hid ((Kp.start w4).allocAt w4.heap.size rfl (.cells #[.string r1] 9))
        have B44 := Lib.hid (B4.out.trans (K4.out.below.mono B4.out.size))
        obtain ⟨mx4, hmx4⟩ := (HE.out.keep B44.out).mx
        have C4 := Lib.hid (abbrs_any [rep 254] (.slice (some ⟨w4.heap.size, 0, none⟩) 1 1) _ mx4 (show StrV (w4.alloc (.cells #[.string r1] 9)) _ [rep 254] by
          have h := SlV.of_block (sz := 1) (n := 1) (c := 1) (K4.out.at 0 rfl) (by decide) (by unfold maxLen; decide) (by simp)
          unfold StrV
          rw [show ([rep 254] : List (List UInt8)).map sv = [.string r1] by rw [← HR1.out]; rfl]
          exact h) (by simp) (fun l hl => by rw [List.mem_singleton.1 hl, rep_len254]; decide) hmx4)
        have hS4 : (bs (abbrsS [rep 254])).size = 255 := rep254.2.1
        rw [rep254.1, rep254.2.2] at C4
        obtain ⟨S4, hS4'⟩ : ∃ S, bs (abbrsS [rep 254]) = S := ⟨_, rfl⟩
        rw [hS4'] at C4 hS4
        clear hS4' hmx4 K4
        go_wp2_with fail
        refine C4.out.mono ?_
        rintro e w5 ⟨ov5, rfl, hk5⟩
        have B5 := Lib.hid (B44.out.trans (hk5.below.mono B44.out.size))
        have V5 := Lib.hid (show SlV w5 ov5 1 1 (ints [0]) from SlV.of_own (hk5.row 0 rfl))
        clear hk5 C4 B4 B44
        go_wp2_with fail
        refine (R2.out _).mono ?_
        rintro e w6 ⟨rfl, hB6⟩
        have B6 := Lib.hid (B5.out.trans (hB6.mono B5.out.size))
        have V6 := Lib.hid (V5.out.keep hB6)
        clear hB6 V5 B5
        have K6 := Lib.hid ((Kp.start w6).allocAt w6.heap.size rfl (.cells #[.string r2] 9))
        have B66 := Lib.hid (B6.out.trans (K6.out.below.mono B6.out.size))
        have V66 := Lib.hid (V6.out.keep K6.out.below)
        obtain ⟨mx6, hmx6⟩ := (HE.out.keep B66.out).mx
        have C6 := Lib.hid (abbrs_any [rep 255] (.slice (some ⟨w6.heap.size, 0, none⟩) 1 1) _ mx6 (show StrV (w6.alloc (.cells #[.string r2] 9)) _ [rep 255] by
          have h := SlV.of_block (sz := 1) (n := 1) (c := 1) (K6.out.at 0 rfl) (by decide) (by unfold maxLen; decide) (by simp)
          unfold StrV
          rw [show ([rep 255] : List (List UInt8)).map sv = [.string r2] by rw [← HR2.out]; rfl]
          exact h) (by simp) (fun l hl => by rw [List.mem_singleton.1 hl, rep_len255]; decide) hmx6)
        rw [rep255] at C6
        obtain ⟨S6, hS6⟩ : ∃ S, bs (abbrsS [rep 255]) = S := ⟨_, rfl⟩
        rw [hS6] at C6
        clear hS6 hmx6 K6
        go_wp2_with fail
        refine C6.out.mono ?_
        rintro e w7 ⟨ov7, rfl, hk7⟩
        have B7 := Lib.hid (B66.out.trans (hk7.below.mono B66.out.size))
        have V7 := Lib.hid (V66.out.keep hk7.below)
        clear hk7 C6 B6 B66 V6 V66
        have K7 := Lib.hid ((Kp.start w7).allocAt w7.heap.size rfl (.cells #[.int .i64 0] 3))
        have B77 := Lib.hid (B7.out.trans (K7.out.below.mono B7.out.size))
        have C7 := Lib.hid (equal_ints [0] [0] ov5 (.slice (some ⟨w7.heap.size, 0, none⟩) 1 1) _ (V7.out.keep K7.out.below) (SlV.of_block (sz := 1) (n := 1) (c := 1) (K7.out.at 0 rfl) (by decide) (by unfold maxLen; decide) (by simp)))
        rw [decide_eq_true rfl] at C7
        clear V7 K7
        go_wp2_with fail
        refine C7.out.mono ?_
        rintro e w8 ⟨rfl, hB8⟩
        have B8 := Lib.hid (B77.out.trans (hB8.mono B77.out.size))
        clear hB8 C7 B77 B7
        have CW := Lib.hid (works39_any w8 (HE.out.keep B8.out))
        go_wp2_with fail
        refine CW.out.mono ?_
        rintro e w9 ⟨rfl, hB9⟩
        go_wp2_with fail
        refine bodyPost_ret (v := .bool true) (by simp [results, Tryd.results8, go_sem]) rfl ⟨rfl, B8.out.trans (hB9.mono B8.out.size)⟩
end Go.Proofs.YtkfgonbopgdmgaaDoor.Px
