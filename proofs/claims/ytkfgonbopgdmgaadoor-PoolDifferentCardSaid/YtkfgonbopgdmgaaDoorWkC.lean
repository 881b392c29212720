/- The walks of the laws PoolAbbrs and PoolTypes. -/
import Derived.Test.YtkfgonbopgdmgaaDoorWkB
import Derived.Test.YtkfgonbopgdmgaaDoorRfB
import Derived.Test.YtkfgonbopgdmgaaDoorRfT
namespace Go.Proofs.YtkfgonbopgdmgaaDoor.Px
open Go.RowKit
open Po St Tb

theorem poolTypes_any (L : List Lc) (v : Value) (W : World) (h : LcV W v L) (hf : ∀ l ∈ L, Lc.Fit l) (hmax : L.length ≤ 1000000) :
    Calls Tryd.prog 15 #[v] W fun e w' => ∃ tv iv, e = .returned (.tuple #[tv, iv]) ∧ Kp [] (dfR tv iv (diffA [] L).1 (diffA [] L).2) W w' := by
  have C := Lib.hid (diffL_any L v W h hf hmax)
  clear h hf
  go_enter Tryd.func15, Tryd.ntmps15
  go_wp2_with fail
  refine C.out.mono ?_
  rintro _ V ⟨tv, iv, rfl, hk⟩
  have K := Lib.hid hk
  clear hk
  go_wp2_with fail
  exact bodyPost_ret (v := .tuple #[tv, iv]) (by simp [results, Tryd.results15, go_sem]) rfl ⟨_, _, rfl, K.out⟩
theorem nInt_ints (l : List Nat) : nInt l = ints (l.map (fun (k : Nat) => (k : Int))) := by unfold nInt ints; rw [List.map_map]; rfl
set_option maxHeartbeats 4000000 in
set_option maxRecDepth 100000 in
theorem poolAbbrs_walk {W : World} (L : List (List UInt8)) (v : Value) (hV : StrV W v L) (hf : ∀ l ∈ L, l.length ≤ maxLen) (hnil : ∀ c, v = .slice none L.length c → c = 0) (hE : EnvAt W) :
    Calls Tryd.prog 3 #[v] W fun e w' => e = .returned (.bool true) ∧ Below W.heap.size W w' := by
  obtain ⟨a, c, rfl, hc1, hc2⟩ := hV.slice
  have hall := fun h0 => hV.all h0
  have HV := Lib.hid hV
  have HE := Lib.hid hE
  have CW := Lib.hid (works39_any W hE)
  obtain ⟨n, hn⟩ : ∃ n, L.length = n := ⟨_, rfl⟩
  have HNil := Lib.hid hnil
  have HF := Lib.hid hf
  rw [hn] at hall hc1 HV HNil ⊢
  have HN := Lib.hid hn
  have HA := Lib.hid hall
  have hc2' := hc2
  unfold maxLen at hc2'
  clear hV hE hall hn hnil hc2 hf
  by_cases hbig : 200 < n
  · have hb2 : (200 : Int) < (n : Int) := by omega
    go_enter Tryd.func3, Tryd.ntmps3
    go_wp2_with fail
    refine CW.out.mono ?_
    rintro e w1 ⟨rfl, hB⟩
    go_wp2_with fail
    refine bodyPost_ret (v := .bool true) (by simp [results, Tryd.results3, go_sem]) rfl ⟨rfl, hB⟩
  have hb2 : ¬ ((200 : Int) < (n : Int)) := by omega
  go_enter Tryd.func3, Tryd.ntmps3
  go_wp2_with fail
  go_loopw [4, 18] (fun _ v18 wr => ∃ i : Nat, i ≤ n ∧ v18 = .int .i64 (i : Int) ∧ (∀ x ∈ L.take i, x.length ≤ 300) ∧ W = wr) (fun _ v18 _ => n - (intOf v18).toNat)
  case atStart => exact ⟨0, by omega, rfl, (fun x hx => by simp at hx), rfl⟩
  case round => as_aux_lemma =>
    obtain ⟨i, hi, rfl, hsm, rfl⟩ := hrel
    have HS := Lib.hid hsm
    clear hsm
    by_cases hlt : i < n
    · obtain ⟨b, o, c', e1, _, _, hb, hcell⟩ := HA.out (by omega)
      simp only [Value.slice.injEq] at e1
      obtain ⟨rfl, _, rfl⟩ := e1
      obtain ⟨x, hx⟩ : ∃ x, L[i]? = some x := ⟨_, List.getElem?_eq_getElem (by rw [HN.out]; exact hlt)⟩
      have k0 := hcell i x hx
      have hsz : (bs x).size = x.length := rfl
      have hfx := HF.out x (List.mem_of_getElem? hx)
      unfold maxLen at hfx
      have ht := Lib.hid (show x.length ≤ 300 → ∀ y ∈ L.take (i + 1), y.length ≤ 300 from fun h y hy => by
        rw [List.take_add_one, hx] at hy
        rcases List.mem_append.1 hy with hy | hy
        · exact HS.out y hy
        · simp only [Option.toList_some, List.mem_singleton] at hy
          rw [hy]; exact h)
      obtain ⟨sx, hsx⟩ : ∃ s, bs x = s := ⟨_, rfl⟩
      rw [hsx] at k0 hsz
      clear hcell hx hsx
      by_cases hl : 300 < sx.size
      · have hl2 : (300 : Int) < (sx.size : Int) := by omega
        go_wp2_with fail
        refine CW.out.mono ?_
        rintro e w1 ⟨rfl, hB⟩
        go_wp2_with fail
        refine bodyPost_ret (v := .bool true) (by simp [results, Tryd.results3, go_sem]) rfl ⟨rfl, hB⟩
      · have hl2 : ¬ (300 : Int) < (sx.size : Int) := by omega
        go_wp2_with fail
        go_roundw
        case rel => exact ⟨i + 1, by omega, by go_num, ht.out (by omega), (by first | trivial | rfl)⟩
        case measure => simp [intOf]; omega
    · obtain rfl : i = n := by omega
      have hLt : L.take i = L := List.take_of_length_le (by rw [HN.out]; exact Nat.le_refl _)
      have hsm := HS.out
      rw [hLt] at hsm
      have HSm := Lib.hid hsm
      have hnl := HN.out
      have CC := Lib.hid (clone_strs L (.slice a i c) W (by rw [hnl]; have := HV.out; unfold StrV at this; rw [hnl] at this; exact this) (by rw [hnl]; exact HNil.out) (by rw [hnl]; omega))
      clear hLt hsm hnl HS CW hlt
      go_wp2_with fail
      refine CC.out.mono ?_
      rintro e w1 ⟨gv, rfl, hk1⟩
      have K1 := Lib.hid hk1
      obtain ⟨mx1, hmx1⟩ := (HE.out.keep hk1.below).mx
      have C1 := Lib.hid (abbrs_any L gv w1 mx1 (SlV.of_own (hk1.row 0 rfl)) (by rw [HN.out]; omega) (fun l hl => by have := HSm.out l hl; omega) hmx1)
      clear hk1 hmx1 CC
      go_wp2_with fail
      refine C1.out.mono ?_
      rintro e w2 ⟨ov, rfl, hk2⟩
      have K2 := Lib.hid (K1.out.adopt hk2)
      clear hk2 C1 K1
      have C2 := Lib.hid (rabbrs_any L (.slice a i c) w2 (StrV.keep HV.out K2.out.below) (by rw [HN.out]; omega) (fun l hl => by have := HSm.out l hl; omega))
      go_wp2_with fail
      refine C2.out.mono ?_
      rintro e w3 ⟨rv, rfl, hk3⟩
      have K3 := Lib.hid (K2.out.adopt hk3)
      clear hk3 C2 K2
      have C3 := Lib.hid (equal_ints (abbrsA L) (abbrsA L) ov rv w3 (SlV.of_own (K3.out.row 1 rfl)) (SlV.of_own (K3.out.row 0 rfl)))
      rw [decide_eq_true rfl] at C3
      obtain ⟨S, hS⟩ : ∃ S, bs (abbrsS L) = S := ⟨_, rfl⟩
      rw [hS]
      clear hS
      obtain ⟨E, hEe⟩ : ∃ E, abbrsE L = E := ⟨_, rfl⟩
      rw [hEe]
      clear hEe
      go_wp2_with fail
      refine C3.out.mono ?_
      rintro e w4 ⟨rfl, hB4⟩
      have K4 := Lib.hid (K3.out.keep hB4)
      clear hB4 C3 K3
      have C4 := Lib.hid (equal_strs L L gv (.slice a i c) w4 (SlV.of_own (K4.out.row 2 rfl)) (StrV.keep HV.out K4.out.below))
      rw [decide_eq_true rfl] at C4
      go_wp2_with fail
      refine C4.out.mono ?_
      rintro e w5 ⟨rfl, hB5⟩
      have B5 := Lib.hid (K4.out.keep hB5).below
      clear hB5 C4 K4
      have C5 := Lib.hid (works39_any w5 (HE.out.keep B5.out))
      go_wp2_with fail
      refine C5.out.mono ?_
      rintro e w6 ⟨rfl, hB6⟩
      go_wp2_with fail
      refine bodyPost_ret (v := .bool true) (by simp [results, Tryd.results3, go_sem]) rfl ⟨rfl, B5.out.trans (hB6.mono B5.out.size)⟩
set_option maxHeartbeats 4000000 in
set_option maxRecDepth 100000 in
theorem poolTypes_walk {W : World} (L : List Lc) (v : Value) (hV : LcV W v L) (hf : ∀ l ∈ L, Lc.Fit l) (hnil : ∀ c, v = .slice none L.length c → c = 0) (hE : EnvAt W) :
    Calls Tryd.prog 5 #[v] W fun e w' => e = .returned (.bool true) ∧ Below W.heap.size W w' := by
  obtain ⟨a, c, rfl, hc1, hc2⟩ := hV.slice
  have HV := Lib.hid hV
  have HE := Lib.hid hE
  have HF := Lib.hid hf
  have CW := Lib.hid (works39_any W hE)
  have HNil := Lib.hid hnil
  obtain ⟨n, hn⟩ : ∃ n, L.length = n := ⟨_, rfl⟩
  rw [hn] at hc1 HV HNil ⊢
  have HN := Lib.hid hn
  have hc2' := hc2
  unfold maxLen at hc2'
  clear hV hE hn hnil hc2 hf
  by_cases hbig : 300 < n
  · have hb2 : (300 : Int) < (n : Int) := by omega
    go_enter Tryd.func5, Tryd.ntmps5
    go_wp2_with fail
    refine CW.out.mono ?_
    rintro e w1 ⟨rfl, hB⟩
    go_wp2_with fail
    refine bodyPost_ret (v := .bool true) (by simp [results, Tryd.results5, go_sem]) rfl ⟨rfl, hB⟩
  have hb2 : ¬ ((300 : Int) < (n : Int)) := by omega
  have hnl := HN.out
  have CC := Lib.hid (clone_lcs L (.slice a n c) W (by have := HV.out; unfold LcV at this; exact this) (by rw [hnl]; exact HNil.out) (by rw [hnl]; omega))
  clear hnl CW
  go_enter Tryd.func5, Tryd.ntmps5
  go_wp2_with fail
  refine CC.out.mono ?_
  rintro e w1 ⟨gv, rfl, hk1⟩
  have K1 := Lib.hid hk1
  have C1 := Lib.hid (poolTypes_any L gv w1 (SlV.of_own (hk1.row 0 rfl)) HF.out (by rw [HN.out]; omega))
  clear hk1 CC
  go_wp2_with fail
  refine C1.out.mono ?_
  rintro e w2 ⟨tv, iv, rfl, hk2⟩
  have K2 := Lib.hid (K1.out.adopt hk2)
  clear hk2 C1 K1
  have C2 := Lib.hid (rtypesL_any L (.slice a n c) w2 (LcV.keep HV.out K2.out.below) (by rw [HN.out]; omega))
  go_wp2_with fail
  refine C2.out.mono ?_
  rintro e w3 ⟨tv', iv', rfl, hk3⟩
  have K3 := Lib.hid (K2.out.adopt hk3)
  clear hk3 C2 K2
  have C3 := Lib.hid (equal_lcs (diffA [] L).1 (diffA [] L).1 tv tv' w3 (SlV.of_own (K3.out.row 2 rfl)) (SlV.of_own (K3.out.row 0 rfl)))
  rw [decide_eq_true rfl] at C3
  go_wp2_with fail
  refine C3.out.mono ?_
  rintro e w4 ⟨rfl, hB4⟩
  have K4 := Lib.hid (K3.out.keep hB4)
  clear hB4 C3 K3
  have hiv := SlV.of_own (K4.out.row 3 rfl)
  have hiv' := SlV.of_own (K4.out.row 1 rfl)
  dsimp only at hiv hiv'
  rw [nInt_ints] at hiv hiv'
  have hln : (diffA [] L).2.length = ((diffA [] L).2.map (fun (k : Nat) => (k : Int))).length := by rw [List.length_map]
  rw [hln] at hiv hiv'
  have C4 := Lib.hid (equal_ints _ _ iv iv' w4 hiv hiv')
  rw [decide_eq_true rfl] at C4
  clear hln hiv hiv'
  go_wp2_with fail
  refine C4.out.mono ?_
  rintro e w5 ⟨rfl, hB5⟩
  have K5 := Lib.hid (K4.out.keep hB5)
  clear hB5 C4 K4
  have C5 := Lib.hid (equal_lcs L L gv (.slice a n c) w5 (SlV.of_own (K5.out.row 4 rfl)) (LcV.keep HV.out K5.out.below))
  rw [decide_eq_true rfl] at C5
  go_wp2_with fail
  refine C5.out.mono ?_
  rintro e w6 ⟨rfl, hB6⟩
  have B6 := Lib.hid (K5.out.keep hB6).below
  clear hB6 C5 K5
  have C6 := Lib.hid (works39_any w6 (HE.out.keep B6.out))
  go_wp2_with fail
  refine C6.out.mono ?_
  rintro e w7 ⟨rfl, hB7⟩
  go_wp2_with fail
  refine bodyPost_ret (v := .bool true) (by simp [results, Tryd.results5, go_sem]) rfl ⟨rfl, B6.out.trans (hB7.mono B6.out.size)⟩
end Go.Proofs.YtkfgonbopgdmgaaDoor.Px
