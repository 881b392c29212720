/- The reference's different local times (analemmaref39.Types). -/
import Derived.Test.YtkfgonbopgdmgaaDoorEqS
namespace Go.Proofs.YtkfgonbopgdmgaaDoor.Px
open Go.RowKit
open Tb

/-- where an element of the first k ones stands; -1: nowhere -/
def lastAt (O : List Lc) (x : Lc) (k : Nat) : Int := if x ∈ O.take k then (posA O x : Int) else -1
theorem lastAt_same {O : List Lc} {x : Lc} {k : Nat} (hn : O.Nodup) (h : O[k]? = some x) : lastAt O x (k + 1) = (k : Int) := by
  unfold lastAt
  obtain ⟨hk, hx⟩ := List.getElem?_eq_some_iff.1 h
  rw [if_pos (by rw [List.take_add_one, h]; simp)]
  unfold posA
  congr 1
  rw [← hx]
  exact hn.idxOf_getElem k hk
theorem lastAt_other {O : List Lc} {x y : Lc} {k : Nat} (h : O[k]? = some y) (he : y ≠ x) : lastAt O x (k + 1) = lastAt O x k := by
  unfold lastAt
  rw [List.take_add_one, h]
  by_cases hm : x ∈ O.take k
  · rw [if_pos (by simp [hm]), if_pos hm]
  · rw [if_neg hm, if_neg]
    intro hq
    simp only [Option.toList_some, List.mem_append, List.mem_singleton] at hq
    rcases hq with hq | hq
    · exact hm hq
    · exact he hq.symm
theorem lastAt_all {O : List Lc} {x : Lc} {k : Nat} (h : O.length ≤ k) : lastAt O x k = if x ∈ O then (posA O x : Int) else -1 := by unfold lastAt; rw [List.take_of_length_le h]
set_option maxHeartbeats 8000000 in
set_option maxRecDepth 100000 in
theorem rtypesL_any (L : List Lc) (v : Value) (W : World) (h : LcV W v L) (hmax : L.length ≤ 1000000) :
    Calls Tryd.prog 18 #[v] W fun e w' => ∃ tv iv, e = .returned (.tuple #[tv, iv]) ∧ Kp [] (dfR tv iv (diffA [] L).1 (diffA [] L).2) W w' := by
  obtain ⟨a, c, rfl, hc1, hc2⟩ := h.slice
  have hall := fun h0 => h.all h0
  obtain ⟨n, hn⟩ : ∃ n, L.length = n := ⟨_, rfl⟩
  rw [hn] at hall hmax hc1 ⊢
  unfold maxLen at hc2
  have HA := Lib.hid hall
  have HN := Lib.hid hn
  have K0 := Lib.hid (((Kp.start W).fresh 3 1).fresh 36 3)
  obtain ⟨i0, hi, hz0, hz1, hz2⟩ := info_parts' infoLc
  obtain ⟨j0, hj, hy0, hy1, hy2⟩ := info_parts' infoI
  clear h hall hn
  go_enter Tryd.func18, Tryd.ntmps18
  go_wp2_with fail
  go_loopw [4, 5, 6, 7, 8] (fun v4 v5 v6 _ _ wr => ∃ i : Nat, i ≤ n ∧ v6 = .int .i64 (i : Int) ∧ Kp [] (dfR v4 v5 (diffA [] (L.take i)).1 (diffA [] (L.take i)).2) W wr) (fun _ _ v6 _ _ _ => n - (intOf v6).toNat)
  case atStart => exact ⟨0, by omega, rfl, K0.out⟩
  case round => as_aux_lemma =>
    obtain ⟨i, hi', rfl, hK⟩ := hrel
    obtain ⟨⟨O, I⟩, hO⟩ : ∃ p, diffA [] (L.take i) = p := ⟨_, rfl⟩
    rw [hO] at hK
    dsimp only [dfR] at hK
    obtain ⟨a4, c4, rfl⟩ : ∃ a c, u4 = .slice a O.length c := own_slice (hK.row 0 rfl)
    obtain ⟨a5, c5, rfl⟩ : ∃ a c, u5 = .slice a I.length c := own_slice (hK.row 1 rfl)
    have HK := Lib.hid hK
    have hlen := diffA_len (L.take i) []
    have hI : I.length = i := by
      rw [hO] at hlen
      rw [hlen.1, List.length_take, HN.out]
      omega
    have hOl : O.length ≤ i := by
      rw [hO] at hlen
      have := hlen.2
      rw [List.length_take, HN.out] at this
      simp at this
      omega
    have hnO : O.Nodup := by
      have := diffA_nodup (L.take i) [] List.nodup_nil
      rw [hO] at this
      exact this
    have HNo := Lib.hid hnO
    have HO := Lib.hid hO
    have HI := Lib.hid hI
    obtain ⟨q, hq⟩ : ∃ q, O.length = q := ⟨_, rfl⟩
    have HQ := Lib.hid hq
    rw [hq] at HK hOl ⊢
    obtain ⟨p, hp⟩ : ∃ p, I.length = p := ⟨_, rfl⟩
    rw [hp] at HK ⊢
    have HP := Lib.hid hp
    have hpi : p = i := by rw [← hp]; exact hI
    subst hpi
    clear hK hO hlen hnO K0 hI hq hp
    by_cases hlt : p < n
    · obtain ⟨b, o, c', e1, _, _, hb, hcell⟩ := HA.out (by omega)
      simp only [Value.slice.injEq] at e1
      obtain ⟨rfl, _, rfl⟩ := e1
      obtain ⟨l, hl⟩ : ∃ l, L[p]? = some l := ⟨_, List.getElem?_eq_getElem (by have := HN.out; omega)⟩
      obtain ⟨c0, c1, c2⟩ := hcell p l hl
      have HC0 := Lib.hid (And.intro c0 (And.intro c1 c2))
      have HL := Lib.hid (show diffA [] (L.take (p + 1)) = if l ∈ O then (O, I ++ [posA O l]) else (O ++ [l], I ++ [O.length]) by
        rw [List.take_add_one, hl]
        show diffA [] (L.take p ++ [l]) = _
        rw [diffA_snoc, HO.out])
      clear c0 c1 c2 hl hcell
      go_wp2_with fail
      go_loopw [7, 8] (fun v7 v8 wr => ∃ k : Nat, k ≤ q ∧ v8 = .int .i64 (k : Int) ∧ v7 = .int .i64 (lastAt O l k) ∧ Kp [] [⟨.slice a4 q c4, 36, 3, q, O.flatMap Lc.cells⟩, ⟨.slice a5 p c5, 3, 1, p, nInt I⟩] W wr) (fun _ v8 _ => q - (intOf v8).toNat)
      case atStart => exact ⟨0, by omega, rfl, rfl, HK.out⟩
      case round => as_aux_lemma =>
        obtain ⟨k, hk, rfl, rfl, hK⟩ := hrel
        have HX := Lib.hid hK
        clear hK HK
        by_cases hkq : k < q
        · obtain ⟨y, hy⟩ : ∃ y, O[k]? = some y := ⟨_, List.getElem?_eq_getElem (by rw [HQ.out]; exact hkq)⟩
          obtain ⟨g, rfl, -, -, -, hg⟩ := own_some (HX.out.row 0 rfl) (by dsimp only; omega)
          obtain ⟨q0, q1, q2⟩ := lc_at O hy
          have m0 : wr.cell? ⟨g, k * 3, none⟩ = some (.int .i64 y.off) := own_cell (HX.out.row 0 rfl) q0
          have m1 : wr.cell? ⟨g, k * 3 + 1, none⟩ = some (.bool y.dst) := own_cell (HX.out.row 0 rfl) q1
          have m2 : wr.cell? ⟨g, k * 3 + 2, none⟩ = some (.string y.abbr) := own_cell (HX.out.row 0 rfl) q2
          have k0 := (HX.out.below.cell (p := ⟨b, o + p * 3, none⟩) hb).trans HC0.out.1
          have k1 := (HX.out.below.cell (p := ⟨b, o + p * 3 + 1, none⟩) hb).trans HC0.out.2.1
          have k2 := (HX.out.below.cell (p := ⟨b, o + p * 3 + 2, none⟩) hb).trans HC0.out.2.2
          have hbw := Nat.lt_of_lt_of_le hb HX.out.below.size
          have hs1 := Lib.hid (fun e : y = l => lastAt_same HNo.out (e ▸ hy))
          have hs2 := Lib.hid (fun e : y ≠ l => lastAt_other hy e)
          clear hy q0 q1 q2
          by_cases he : y = l
          · have hs := Lib.hid (hs1.out he)
            subst he
            obtain ⟨yo, yd, ya⟩ := y
            dsimp only at m0 m1 m2 k0 k1 k2
            go_upto_region 10 with fail
            go_quiet (fail)
            go_wp2_with fail
            go_roundw
            case rel => exact ⟨k + 1, by omega, by go_num, by rw [hs.out], HX.out.call (below_drewN (Below.refl _ _) _) rfl rfl rfl rfl⟩
            case measure => simp [intOf]; omega
          · have hs := Lib.hid (hs2.out he)
            have hq := loc_ne he
            obtain ⟨yo, yd, ya⟩ := y
            obtain ⟨lo, ld, la⟩ := l
            dsimp only at m0 m1 m2 k0 k1 k2 hq
            clear he
            go_upto_region 10 with fail
            go_quiet (fail)
            go_wp2_with fail
            go_roundw
            case rel => exact ⟨k + 1, by omega, by go_num, by rw [hs.out], HX.out.call (below_drewN (Below.refl _ _) _) rfl rfl rfl rfl⟩
            case measure => simp [intOf]; omega
        · obtain rfl : k = q := by omega
          have hx := lastAt_all (O := O) (x := l) (k := k) (by rw [HQ.out]; exact Nat.le_refl _)
          by_cases hm : l ∈ O
          · rw [if_pos hm] at hx
            have hl2 := HL.out
            rw [if_pos hm] at hl2
            have HL2 := Lib.hid hl2
            obtain ⟨z, hz⟩ : ∃ z, posA O l = z := ⟨_, rfl⟩
            rw [hz] at hx HL2
            rw [hx]
            have hn0 : ¬ ((z : Int) < 0) := by omega
            have K1 := Lib.hid (HX.out.swap.allocAt wr.heap.size rfl (.cells #[.int .i64 (z : Int)] 3))
            clear hx hl2 hm hz
            go_wp2_with (first
              | (at_builtin; refine wpList_append_own_at _ rfl (.tmp 43) (.tmp 45) 25 rfl W.heap.size 3 j0 (.int .i64 0) 1 8 Tryd.underlying25 hj hy0 hy1 hy2 rfl (by decide) _ p _ rfl (K1.out.row 0 rfl) ⟨wr.heap.size, 0, none⟩ 1 1 [.int .i64 (z : Int)] rfl rfl ?c1 ?c2 ?c3 ?c4 ?c5 ?_; (case c1 => exact World.news_of_block (K1.out.at 0 rfl)); (case c2 => simp [Value.oneCell']); (case c3 => unfold maxLen; omega); (case c4 => omega); (case c5 => exact K1.out.below.size); intro v' w1 hown hgrow _ hat; have K2 := Lib.hid (K1.out.append hown hgrow hat).drop.swap; clear hown hgrow hat)
              | go_in)
            go_roundw
            case rel =>
              refine ⟨p + 1, by omega, by go_num, ?_⟩
              rw [HL2.out]
              dsimp only [dfR]
              rw [nInt_snoc, List.length_append, HQ.out, HP.out]
              exact K2.out
            case measure => simp [intOf]; omega
          · rw [if_neg hm] at hx
            have hl2 := HL.out
            rw [if_neg hm, HQ.out] at hl2
            have HL2 := Lib.hid hl2
            rw [hx]
            obtain ⟨lo, ld, la⟩ := l
            have k0 := (HX.out.below.cell (p := ⟨b, o + p * 3, none⟩) hb).trans HC0.out.1
            have k1 := (HX.out.below.cell (p := ⟨b, o + p * 3 + 1, none⟩) hb).trans HC0.out.2.1
            have k2 := (HX.out.below.cell (p := ⟨b, o + p * 3 + 2, none⟩) hb).trans HC0.out.2.2
            have hbw := Nat.lt_of_lt_of_le hb HX.out.below.size
            dsimp only at k0 k1 k2
            have K1 := Lib.hid (HX.out.allocAt wr.heap.size rfl (.cells #[.int .i64 lo, .bool ld, .string la] 36))
            clear hx hl2 hm
            go_wp2_with (first
              | (at_builtin; (refine wpList_append_own_at _ rfl (.tmp 33) (.tmp 38) 32 rfl W.heap.size 36 i0 (.agg #[.int .i64 0, .bool false, .string ⟨#[]⟩]) 3 32 Tryd.underlying32 hi hz0 hz1 hz2 rfl (by decide) _ k _ rfl (K1.out.row 0 rfl) ⟨wr.heap.size, 0, none⟩ 1 1 [.int .i64 lo, .bool ld, .string la] rfl rfl ?c1 ?c2 ?c3 ?c4 ?c5 ?_; (case c1 => exact World.news_of_block (K1.out.at 0 rfl)); (case c2 => simp [Value.oneCell']); (case c3 => unfold maxLen; omega); (case c4 => omega); (case c5 => exact K1.out.below.size); intro v' w1 hown hgrow _ hat; have K2 := Lib.hid (K1.out.append hown hgrow hat).drop; obtain ⟨a9, c9, ev⟩ := own_slice (K2.out.row 0 rfl); dsimp only at ev; subst ev; have K3 := Lib.hid (K2.out.swap.allocAt w1.heap.size rfl (.cells #[.int .i64 (k : Int)] 3)); clear hown hgrow hat))
              | (at_builtin; refine wpList_append_own_at _ rfl (.tmp 43) (.tmp 45) 25 rfl W.heap.size 3 j0 (.int .i64 0) 1 8 Tryd.underlying25 hj hy0 hy1 hy2 rfl (by decide) _ p _ rfl (K3.out.row 0 rfl) _ 1 1 [.int .i64 (k : Int)] rfl rfl ?c1 ?c2 ?c3 ?c4 ?c5 ?_; (case c1 => exact World.news_of_block (K3.out.at 0 rfl)); (case c2 => simp [Value.oneCell']); (case c3 => unfold maxLen; omega); (case c4 => omega); (case c5 => exact K3.out.below.size); intro v2 w2 hown hgrow _ hat; have K4 := Lib.hid (K3.out.append hown hgrow hat).drop.swap; clear hown hgrow hat)
              | go_in)
            go_roundw
            case rel =>
              refine ⟨p + 1, by omega, by go_num, ?_⟩
              rw [HL2.out]
              dsimp only [dfR]
              rw [nInt_snoc, lcs_snoc, List.length_append, List.length_append, HQ.out, HP.out]
              exact K4.out
            case measure => simp [intOf]; omega
    · obtain rfl : p = n := by omega
      have hLt : L.take p = L := List.take_of_length_le (by have := HN.out; omega)
      have hE : diffA [] L = (O, I) := by rw [← HO.out, hLt]
      have HE := Lib.hid hE
      clear hLt hE
      go_wp2_with fail
      refine bodyPost_ret (v := .tuple #[.slice a4 q c4, .slice a5 p c5]) (by simp [results, Tryd.results18, go_sem]) rfl ⟨_, _, rfl, ?_⟩
      rw [HE.out]
      dsimp only [dfR]
      rw [HQ.out, HP.out]
      exact HK.out
end Go.Proofs.YtkfgonbopgdmgaaDoor.Px
