/- The walk of the law PoolDifferent; slices.Index at local times. -/
import Derived.Test.YtkfgonbopgdmgaaDoorWkC
namespace Go.Proofs.YtkfgonbopgdmgaaDoor.Px
open Go.RowKit
open Po St Tb

theorem diffA_app {α : Type} [DecidableEq α] : ∀ (a b ts : List α), diffA ts (a ++ b) = ((diffA (diffA ts a).1 b).1, (diffA ts a).2 ++ (diffA (diffA ts a).1 b).2)
  | [], b, ts => by simp [diffA]
  | x :: r, b, ts => by
    rw [List.cons_append]
    by_cases h : x ∈ ts
    · simp only [diffA, if_pos h]
      rw [diffA_app r b ts]
      rfl
    · simp only [diffA, if_neg h]
      rw [diffA_app r b (ts ++ [x])]
      rfl
/-- how many different ones stand among the first i -/
def countL (L : List Lc) (i : Nat) : Nat := (diffA [] (L.take i)).1.length
/-- the step of the count -/
theorem count_step {L : List Lc} {i : Nat} {x : Lc} (h : L[i]? = some x) : ∃ k, (diffA [] L).2[i]? = some k ∧ (diffA [] L).1[k]? = some x ∧ k ≤ countL L i ∧ countL L (i + 1) = if k = countL L i then countL L i + 1 else countL L i := by
  obtain ⟨k, hk, hx⟩ := diffA_at L [] i x h
  refine ⟨k, hk, hx, ?_⟩
  obtain ⟨hi, hxi⟩ := List.getElem?_eq_some_iff.1 h
  have e : L = L.take i ++ (x :: L.drop (i + 1)) := by
    rw [← hxi, ← List.drop_eq_getElem_cons hi, List.take_append_drop]
  have hl : (diffA [] (L.take i)).2.length = i := by rw [(diffA_len _ _).1, List.length_take]; omega
  have hk2 : (diffA [] L).2[i]? = (diffA (diffA [] (L.take i)).1 (x :: L.drop (i + 1))).2[0]? := by
    rw [show diffA [] L = diffA [] (L.take i ++ (x :: L.drop (i + 1))) by rw [← e], diffA_app]
    dsimp only
    rw [List.getElem?_append_right (by omega), hl, Nat.sub_self]
  have hn : (diffA [] (L.take i)).1.Nodup := diffA_nodup _ _ List.nodup_nil
  have hs : diffA [] (L.take (i + 1)) = if x ∈ (diffA [] (L.take i)).1 then ((diffA [] (L.take i)).1, (diffA [] (L.take i)).2 ++ [posA (diffA [] (L.take i)).1 x]) else ((diffA [] (L.take i)).1 ++ [x], (diffA [] (L.take i)).2 ++ [(diffA [] (L.take i)).1.length]) := by
    rw [List.take_add_one, h]
    exact diffA_snoc _ _ _
  rw [hk] at hk2
  unfold countL
  rw [hs]
  by_cases hm : x ∈ (diffA [] (L.take i)).1
  · simp only [diffA, if_pos hm] at hk2
    have hk3 : k = posA (diffA [] (L.take i)).1 x := by simpa using hk2
    have hlt : k < (diffA [] (L.take i)).1.length := by rw [hk3]; exact List.idxOf_lt_length_of_mem hm
    rw [if_pos hm, if_neg (by omega)]
    exact ⟨by omega, rfl⟩
  · simp only [diffA, if_neg hm] at hk2
    have hk3 : k = (diffA [] (L.take i)).1.length := by simpa using hk2
    rw [if_neg hm, if_pos hk3]
    exact ⟨by omega, by simp⟩
theorem count_all {L : List Lc} {i : Nat} (h : L.length ≤ i) : countL L i = (diffA [] L).1.length := by unfold countL; rw [List.take_of_length_le h]
set_option maxHeartbeats 4000000 in
set_option maxRecDepth 100000 in
theorem index_lcs (O : List Lc) (x : Lc) (v : Value) (W : World) (hV : LcV W v O) :
    Calls Tryd.prog 16 #[v, x.val] W fun e w' => e = .returned (.int .i64 (if x ∈ O then (posA O x : Int) else -1)) ∧ Below W.heap.size W w' := by
  obtain ⟨a, c, rfl, hc1, hc2⟩ := hV.slice
  have hall := fun h0 => hV.all h0
  obtain ⟨n, hn⟩ : ∃ n, O.length = n := ⟨_, rfl⟩
  rw [hn] at hall hc1 ⊢
  unfold maxLen at hc2
  have HA := Lib.hid hall
  have HN := Lib.hid hn
  obtain ⟨R, hR⟩ : ∃ R : Int, (if x ∈ O then (posA O x : Int) else -1) = R := ⟨_, rfl⟩
  have HR := Lib.hid hR
  rw [hR]
  obtain ⟨xo, xd, xa⟩ := x
  unfold Lc.val
  dsimp only
  have K0 := Lib.hid ((Kp.start W).allocAt W.heap.size rfl (.cells #[.int .i64 xo, .bool xd, .string xa] 36))
  clear hV hall hn hR
  go_enter Tryd.func16, Tryd.ntmps16
  go_wp2_with fail
  go_loopw [5, 8] (fun _ v8 wr => ∃ i : Nat, i ≤ n ∧ v8 = .int .i64 (i : Int) ∧ (⟨xo, xd, xa⟩ : Lc) ∉ O.take i ∧ Kp [(W.heap.size, .cells #[.int .i64 xo, .bool xd, .string xa] 36 (0, 0))] [] W wr) (fun _ v8 _ => n - (intOf v8).toNat)
  case atStart => exact ⟨0, by omega, rfl, by simp, K0.out⟩
  case round =>
    obtain ⟨i, hi, rfl, hno, hk⟩ := hrel
    have HNO := Lib.hid hno
    have HK := Lib.hid hk
    clear hno hk K0
    by_cases hlt : i < n
    · obtain ⟨b, o, c', e1, _, _, hb, hcell⟩ := HA.out (by omega)
      simp only [Value.slice.injEq] at e1
      obtain ⟨rfl, _, rfl⟩ := e1
      obtain ⟨y, hy⟩ : ∃ y, O[i]? = some y := ⟨_, List.getElem?_eq_getElem (by rw [HN.out]; exact hlt)⟩
      obtain ⟨c0, c1, c2⟩ := hcell i y hy
      have k0 := (HK.out.below.cell (p := ⟨b, o + i * 3, none⟩) hb).trans c0
      have k1 := (HK.out.below.cell (p := ⟨b, o + i * 3 + 1, none⟩) hb).trans c1
      have k2 := (HK.out.below.cell (p := ⟨b, o + i * 3 + 2, none⟩) hb).trans c2
      have hbw := Nat.lt_of_lt_of_le hb HK.out.below.size
      obtain ⟨⟨m0, m1, m2⟩, _, _, _⟩ := row3 (HK.out.at 0 rfl)
      have hz := HK.out.lt 0 rfl
      have HY := Lib.hid hy
      clear c0 c1 c2 hcell hy
      by_cases he : (⟨xo, xd, xa⟩ : Lc) = y
      · subst he
        have hr := Lib.hid (show R = (i : Int) by
          rw [← HR.out, if_pos (List.mem_of_getElem? HY.out)]
          unfold posA
          congr 1
          have hno := HNO.out
          have hi2 := (List.getElem?_eq_some_iff.1 HY.out).1
          have e : O = O.take i ++ (⟨xo, xd, xa⟩ :: O.drop (i + 1)) := by
            rw [← (List.getElem?_eq_some_iff.1 HY.out).2, ← List.drop_eq_getElem_cons hi2, List.take_append_drop]
          rw [e, List.idxOf_append, if_neg hno, List.idxOf_cons_self, List.length_take]
          omega)
        dsimp only at k0 k1 k2
        go_upto_region 4 with fail
        go_quiet (fail)
        go_wp2_with fail
        refine bodyPost_ret (v := .int .i64 (i : Int)) (by simp [results, Tryd.results16, go_sem]) rfl ⟨?_, below_drewN HK.out.below _⟩
        rw [hr.out]
      · have hq := loc_ne he
        have ht := Lib.hid (show (⟨xo, xd, xa⟩ : Lc) ∉ O.take (i + 1) by
          rw [List.take_add_one, HY.out]
          intro hm
          rcases List.mem_append.1 hm with hm | hm
          · exact HNO.out hm
          · simp only [Option.toList_some, List.mem_singleton] at hm
            exact he hm)
        obtain ⟨yo, yd, ya⟩ := y
        dsimp only at k0 k1 k2 hq
        clear he
        go_upto_region 4 with fail
        go_quiet (fail)
        go_wp2_with fail
        go_roundw
        case rel => exact ⟨i + 1, by omega, by go_num, ht.out, HK.out.call (below_drewN (Below.refl _ _) _) rfl rfl rfl rfl⟩
        case measure => simp [intOf]; omega
    · obtain rfl : i = n := by omega
      have hr := Lib.hid (show R = -1 by
        rw [← HR.out, if_neg]
        have := HNO.out
        rwa [List.take_of_length_le (by rw [HN.out]; exact Nat.le_refl _)] at this)
      go_wp2_with fail
      refine bodyPost_ret (v := .int .i64 (-1)) (by simp [results, Tryd.results16, go_sem]) rfl ⟨?_, HK.out.below⟩
      rw [hr.out]
set_option maxHeartbeats 8000000 in
set_option maxRecDepth 100000 in
theorem poolDifferent_walk {W : World} (L : List Lc) (v : Value) (hV : LcV W v L) (hf : ∀ l ∈ L, Lc.Fit l) (_hnil : ∀ c, v = .slice none L.length c → c = 0) (hE : EnvAt W) :
    Calls Tryd.prog 4 #[v] W fun e w' => e = .returned (.bool true) ∧ Below W.heap.size W w' := by
  obtain ⟨a, c, rfl, hc1, hc2⟩ := hV.slice
  have hall := fun h0 => hV.all h0
  have HV := Lib.hid hV
  have HE := Lib.hid hE
  have HF := Lib.hid hf
  have CW := Lib.hid (works39_any W hE)
  obtain ⟨n, hn⟩ : ∃ n, L.length = n := ⟨_, rfl⟩
  rw [hn] at hc1 HV hall ⊢
  have HN := Lib.hid hn
  have HA := Lib.hid hall
  have hc2' := hc2
  unfold maxLen at hc2'
  clear hV hE hn _hnil hc2 hf hall
  by_cases hbig : 100 < n
  · have hb2 : (100 : Int) < (n : Int) := by omega
    go_enter Tryd.func4, Tryd.ntmps4
    go_wp2_with fail
    refine CW.out.mono ?_
    rintro e w1 ⟨rfl, hB⟩
    go_wp2_with fail
    refine bodyPost_ret (v := .bool true) (by simp [results, Tryd.results4, go_sem]) rfl ⟨rfl, hB⟩
  have hb2 : ¬ ((100 : Int) < (n : Int)) := by omega
  have CT := Lib.hid (poolTypes_any L (.slice a n c) W (by have := HV.out; unfold LcV at this; unfold LcV; exact this) HF.out (by rw [HN.out]; omega))
  have hlen := diffA_len L []
  have hndp := diffA_nodup L [] List.nodup_nil
  have hstep := fun i x h => count_step (L := L) (i := i) (x := x) h
  have hcall := fun i h => count_all (L := L) (i := i) h
  obtain ⟨⟨O, I⟩, hO⟩ : ∃ p, diffA [] L = p := ⟨_, rfl⟩
  rw [hO] at CT hlen hndp hcall hstep
  dsimp only [dfR] at CT hlen hndp hcall hstep
  have hIl : I.length = n := by rw [hlen.1]; exact HN.out
  have hOl : O.length ≤ n := by have := hlen.2; rw [HN.out] at this; simpa using this
  have HI := Lib.hid hIl
  have HNd := Lib.hid hndp
  have HSt := Lib.hid hstep
  have HCa := Lib.hid hcall
  rw [hIl] at CT
  obtain ⟨q, hq⟩ : ∃ q, O.length = q := ⟨_, rfl⟩
  have HQ := Lib.hid hq
  rw [hq] at CT hOl HCa
  clear hlen hndp hstep hcall hO hIl hq CW
  go_enter Tryd.func4, Tryd.ntmps4
  go_wp2_with fail
  refine CT.out.mono ?_
  rintro e w1 ⟨tv, iv, rfl, hk⟩
  obtain ⟨ta, tc, rfl⟩ : ∃ a c, tv = .slice a q c := own_slice (hk.row 0 rfl)
  obtain ⟨ia, ic, rfl⟩ : ∃ a c, iv = .slice a n c := own_slice (hk.row 1 rfl)
  have HK := Lib.hid hk
  clear hk CT
  go_wp2_with fail
  go_loopw [5, 6, 7, 26] (fun v5 _ _ v26 wr => ∃ i : Nat, i ≤ n ∧ v26 = .int .i64 (i : Int) ∧ v5 = .int .i64 (countL L i : Int) ∧ countL L i ≤ i ∧ Kp [] [⟨.slice ta q tc, 36, 3, q, O.flatMap Lc.cells⟩, ⟨.slice ia n ic, 3, 1, n, nInt I⟩] W wr) (fun _ _ _ v26 _ => n - (intOf v26).toNat)
  case atStart => exact ⟨0, by omega, rfl, rfl, Nat.le_refl _, HK.out⟩
  case round =>
    obtain ⟨i, hi, rfl, rfl, hcl, hk⟩ := hrel
    have HK := Lib.hid hk
    clear hk
    by_cases hlt : i < n
    · obtain ⟨b, o, c', e1, _, _, hb, hcell⟩ := HA.out (by omega)
      simp only [Value.slice.injEq] at e1
      obtain ⟨rfl, _, rfl⟩ := e1
      obtain ⟨x, hx⟩ : ∃ x, L[i]? = some x := ⟨_, List.getElem?_eq_getElem (by rw [HN.out]; exact hlt)⟩
      obtain ⟨c0, c1, c2⟩ := hcell i x hx
      obtain ⟨k, hki, hko, hkle, hcs⟩ := HSt.out i x hx
      have hkq : k < q := by rw [← HQ.out]; exact (List.getElem?_eq_some_iff.1 hko).1
      obtain ⟨g, rfl, -, -, -, hg⟩ := own_some (HK.out.row 0 rfl) (by dsimp only; omega)
      obtain ⟨gi, rfl, -, -, -, hgi⟩ := own_some (HK.out.row 1 rfl) (by dsimp only; omega)
      obtain ⟨q0, q1, q2⟩ := lc_at O hko
      have j0 : wr.cell? ⟨gi, i, none⟩ = some (.int .i64 (k : Int)) := own_cell (HK.out.row 1 rfl) (by dsimp only; unfold nInt; rw [List.getElem?_map, hki]; rfl)
      have m0 : wr.cell? ⟨g, k * 3, none⟩ = some (.int .i64 x.off) := own_cell (HK.out.row 0 rfl) q0
      have m1 : wr.cell? ⟨g, k * 3 + 1, none⟩ = some (.bool x.dst) := own_cell (HK.out.row 0 rfl) q1
      have m2 : wr.cell? ⟨g, k * 3 + 2, none⟩ = some (.string x.abbr) := own_cell (HK.out.row 0 rfl) q2
      have k0 := (HK.out.below.cell (p := ⟨b, o + i * 3, none⟩) hb).trans c0
      have k1 := (HK.out.below.cell (p := ⟨b, o + i * 3 + 1, none⟩) hb).trans c1
      have k2 := (HK.out.below.cell (p := ⟨b, o + i * 3 + 2, none⟩) hb).trans c2
      have hbw := Nat.lt_of_lt_of_le hb HK.out.below.size
      obtain ⟨C, hC⟩ : ∃ C, countL L i = C := ⟨_, rfl⟩
      rw [hC] at hkle hcs hcl ⊢
      have HCs := Lib.hid hcs
      obtain ⟨xo, xd, xa⟩ := x
      dsimp only at m0 m1 m2 k0 k1 k2
      clear c0 c1 c2 hcell hx hki hko q0 q1 q2 hC hcs
      have t1 : ¬ ((k : Int) < 0) := by omega
      have t2 : ¬ ((q : Int) ≤ (k : Int)) := by omega
      have t3 : ¬ ((C : Int) < (k : Int)) := by omega
      by_cases hkc : k = C
      · subst hkc
        go_upto_region 10 with fail
        go_quiet (fail)
        go_wp2_with fail
        go_roundw
        case rel =>
          refine ⟨i + 1, by omega, by go_num, ?_, ?_, HK.out.call (below_drewN (Below.refl _ _) _) rfl rfl rfl rfl⟩
          · rw [HCs.out, if_pos rfl]; go_num
          · rw [HCs.out, if_pos rfl]; omega
        case measure => simp [intOf]; omega
      · have t4 : ¬ ((k : Int) = (C : Int)) := by omega
        go_upto_region 10 with fail
        go_quiet (fail)
        go_wp2_with fail
        go_roundw
        case rel =>
          refine ⟨i + 1, by omega, by go_num, ?_, ?_, HK.out.call (below_drewN (Below.refl _ _) _) rfl rfl rfl rfl⟩
          · rw [HCs.out, if_neg hkc]
          · rw [HCs.out, if_neg hkc]; omega
        case measure => simp [intOf]; omega
    · obtain rfl : i = n := by omega
      have hca := HCa.out i (by rw [HN.out]; exact Nat.le_refl _)
      rw [hca]
      clear hca hlt
      go_wp2_with fail
      go_loopw [8, 9, 63] (fun _ _ v63 wr => ∃ j : Nat, j ≤ q ∧ v63 = .int .i64 (j : Int) ∧ Kp [] [⟨.slice ta q tc, 36, 3, q, O.flatMap Lc.cells⟩, ⟨.slice ia i ic, 3, 1, i, nInt I⟩] W wr) (fun _ _ v63 _ => q - (intOf v63).toNat)
      case atStart => exact ⟨0, by omega, rfl, HK.out⟩
      case round =>
        obtain ⟨j, hj, rfl, hk⟩ := hrel
        have HX := Lib.hid hk
        clear hk HK
        by_cases hlt : j < q
        · obtain ⟨x, hx⟩ : ∃ x, O[j]? = some x := ⟨_, List.getElem?_eq_getElem (by rw [HQ.out]; exact hlt)⟩
          obtain ⟨g, rfl, -, -, -, hg⟩ := own_some (HX.out.row 0 rfl) (by dsimp only; omega)
          obtain ⟨q0, q1, q2⟩ := lc_at O hx
          have m0 : wr.cell? ⟨g, j * 3, none⟩ = some (.int .i64 x.off) := own_cell (HX.out.row 0 rfl) q0
          have m1 : wr.cell? ⟨g, j * 3 + 1, none⟩ = some (.bool x.dst) := own_cell (HX.out.row 0 rfl) q1
          have m2 : wr.cell? ⟨g, j * 3 + 2, none⟩ = some (.string x.abbr) := own_cell (HX.out.row 0 rfl) q2
          have KA := Lib.hid (HX.out.allocAt wr.heap.size rfl (.cells #[.int .i64 x.off, .bool x.dst, .string x.abbr] 36))
          obtain ⟨⟨p0, p1, p2⟩, _, _, _⟩ := row3 (KA.out.at 0 rfl)
          have hsl := SlV.of_own (KA.out.row 0 rfl)
          have CI := Lib.hid (index_lcs O x (.slice (some ⟨g, 0, none⟩) q tc) _ (show LcV (wr.alloc (.cells #[.int .i64 x.off, .bool x.dst, .string x.abbr] 36)) (.slice (some ⟨g, 0, none⟩) q tc) O by unfold LcV; rw [HQ.out]; exact hsl))
          have hpos : posA O x = j := by
            obtain ⟨hj2, hxj⟩ := List.getElem?_eq_some_iff.1 hx
            unfold posA
            rw [← hxj]
            exact HNd.out.idxOf_getElem j hj2
          rw [if_pos (List.mem_of_getElem? hx), hpos] at CI
          obtain ⟨xo, xd, xa⟩ := x
          unfold Lc.val at CI
          dsimp only at m0 m1 m2 p0 p1 p2 CI KA
          clear hx q0 q1 q2 hsl hpos
          go_wp2_with fail
          refine CI.out.mono ?_
          rintro e w5 ⟨rfl, hB⟩
          have K5 := Lib.hid (KA.out.keep hB).drop
          clear hB
          go_wp2_with fail
          go_roundw
          case rel => exact ⟨j + 1, by omega, by go_num, K5.out⟩
          case measure => simp [intOf]; omega
        · obtain rfl : j = q := by omega
          have CW2 := Lib.hid (works39_any wr (HE.out.keep HX.out.below))
          go_wp2_with fail
          refine CW2.out.mono ?_
          rintro e w6 ⟨rfl, hB6⟩
          go_wp2_with fail
          refine bodyPost_ret (v := .bool true) (by simp [results, Tryd.results4, go_sem]) rfl ⟨rfl, HX.out.below.trans (hB6.mono HX.out.below.size)⟩
end Go.Proofs.YtkfgonbopgdmgaaDoor.Px
