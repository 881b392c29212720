/- The function pool.different at local times: the different ones of a list, and the index of each. -/
import Derived.Test.YtkfgonbopgdmgaaDoorLcA
import Derived.Deep.RegionHeldLaw
import Derived.Deep.AppendLies
namespace Go.Proofs.YtkfgonbopgdmgaaDoor.Px
open Go.RowKit
open Go.Maps (Keyed)
open Tb

theorem idxL_at {l : Lc} (hl : Lc.Fit l) (out : List Lc) : (∀ p ∈ out, Lc.Fit p) → out.Nodup → idxA lcKey out (lcKey l) = if l ∈ out then some (.lit (.int .i64 (posA out l : Int))) else none := by
  refine snocA_ind (P := fun out => (∀ p ∈ out, Lc.Fit p) → out.Nodup → idxA lcKey out (lcKey l) = if l ∈ out then some (.lit (.int .i64 (posA out l : Int))) else none) (fun _ _ => by simp [idxA]) (fun out y ih hf hn => ?_) out
  rw [List.nodup_append] at hn
  have hy : y ∉ out := fun hm => hn.2.2 y hm y (by simp) rfl
  have ih' := ih (fun p hp => hf p (List.mem_append_left _ hp)) hn.1
  have hfy := hf y (by simp)
  have hsame : (lcKey l).sameKey (lcKey y) = true ↔ l = y := ⟨fun h => lcKey_inj hl.1 hl.2 hfy.1 hfy.2 (WideAt.sameKey_eq h), fun e => by rw [e]; exact WideAt.sameKey_self trivial⟩
  rw [idxA_snoc]
  dsimp only
  by_cases e : l = y
  · subst e
    unfold posA
    rw [if_pos (hsame.2 rfl), if_pos (by simp), List.idxOf_append, if_neg hy]
    simp
  · rw [if_neg (fun h => e (hsame.1 h)), ih']
    by_cases hm : l ∈ out
    · unfold posA
      rw [if_pos hm, if_pos (List.mem_append_left _ hm), List.idxOf_append, if_pos hm]
    · rw [if_neg hm, if_neg (by
        intro h
        rcases List.mem_append.1 h with h | h
        · exact hm h
        · rw [List.mem_singleton] at h
          exact e h)]
/-- the two slices of different -/
def dfR (v5 v6 : Value) (O : List Lc) (I : List Nat) : List Rw := [⟨v5, 36, 3, O.length, O.flatMap Lc.cells⟩, ⟨v6, 3, 1, I.length, nInt I⟩]
/-- what the loop keeps -/
def Df (L : List Lc) (W : World) (i : Nat) (v5 v6 : Value) (X : World) : Prop :=
  ∃ n D, n ≤ i ∧ Km [] (dfR v5 v6 (diffA [] (L.take i)).1 (diffA [] (L.take i)).2) [⟨W.heap.size, 36, 3, n, D⟩] W X ∧ FnOf D (idxA lcKey (diffA [] (L.take i)).1)
theorem Km.swapR {L : List (Nat × Obj)} {r s : Rw} {M : List Mp} {w X : World} (h : Km L [r, s] M w X) : Km L [s, r] M w X := h.swap
set_option maxHeartbeats 8000000 in
set_option maxRecDepth 100000 in
theorem diffL_any (L : List Lc) (v : Value) (W : World) (h : LcV W v L) (hf : ∀ l ∈ L, Lc.Fit l) (hmax : L.length ≤ 1000000) :
    Calls Tryd.prog 47 #[v] W fun e w' => ∃ tv iv, e = .returned (.tuple #[tv, iv]) ∧ Kp [] (dfR tv iv (diffA [] L).1 (diffA [] L).2) W w' := by
  obtain ⟨a, c, rfl, hc1, hc2⟩ := h.slice
  have hall := fun h0 => h.all h0
  obtain ⟨n, hn⟩ : ∃ n, L.length = n := ⟨_, rfl⟩
  rw [hn] at hall hmax hc1 ⊢
  unfold maxLen at hc2
  have HA := Lib.hid hall
  have HN := Lib.hid hn
  have HF := Lib.hid hf
  have K0 := Lib.hid ((((Km.of (Kp.start W)).made 36 3).fresh 3 1).fresh 36 3)
  have T0 := Lib.hid (show Df L W 0 (.slice none 0 0) (.slice none 0 0) _ from ⟨0, _, Nat.le_refl _, K0.out, FnOf.empty⟩)
  have hmm := fun (n : Int) (w : World) => run_makeMap_hint (P := Tryd.prog) Tryd.underlying93 n w
  obtain ⟨i0, hi, hz0, hz1, hz2⟩ := info_parts' infoLc
  obtain ⟨j0, hj, hy0, hy1, hy2⟩ := info_parts' infoI
  clear h hall hn hf K0
  go_enter Tryd.func47, Tryd.ntmps47
  go_wp2_with fail
  go_loopw [5, 6, 8, 9, 10, 16] (fun v5 v6 _ _ _ i16 wr => ∃ i : Nat, i ≤ n ∧ i16 = .int .i64 i ∧ Df L W i v5 v6 wr) (fun _ _ _ _ _ i16 _ => n - (intOf i16).toNat)
  case atStart => exact ⟨0, by omega, rfl, T0.out⟩
  case round =>
    obtain ⟨i, hi', rfl, hT⟩ := hrel
    obtain ⟨nm, D, hnm, hK, hD⟩ := hT
    obtain ⟨⟨O, I⟩, hO⟩ : ∃ p, diffA [] (L.take i) = p := ⟨_, rfl⟩
    rw [hO] at hK hD
    dsimp only [dfR] at hK hD
    obtain ⟨a5, c5, rfl⟩ : ∃ a c, u5 = .slice a O.length c := own_slice (hK.kp.row 0 rfl)
    have HK := Lib.hid hK
    have HD := Lib.hid hD
    have HO := Lib.hid hO
    have hlen := diffA_len (L.take i) []
    have hI : I.length = i := by
      rw [hO] at hlen
      rw [hlen.1, List.length_take, HN.out]
      omega
    have hOl : O.length ≤ i := by
      rw [hO] at hlen
      have := hlen.2
      rw [List.length_take, HN.out] at this
      simp at this
      omega
    clear hK hD hO hlen
    by_cases hlt : i < n
    · obtain ⟨b, o, c', e1, _, _, hb, hcell⟩ := HA.out (by omega)
      simp only [Value.slice.injEq] at e1
      obtain ⟨rfl, _, rfl⟩ := e1
      obtain ⟨l, hl⟩ : ∃ l, L[i]? = some l := ⟨_, List.getElem?_eq_getElem (by have := HN.out; omega)⟩
      obtain ⟨c0, c1, c2⟩ := hcell i l hl
      have k0 := (HK.out.below.cell (p := ⟨b, o + i * 3, none⟩) hb).trans c0
      have k1 := (HK.out.below.cell (p := ⟨b, o + i * 3 + 1, none⟩) hb).trans c1
      have k2 := (HK.out.below.cell (p := ⟨b, o + i * 3 + 2, none⟩) hb).trans c2
      have hbw : b < wr.heap.size := Nat.lt_of_lt_of_le hb HK.out.below.size
      have HFit := Lib.hid (HF.out l (List.mem_of_getElem? hl))
      have HLi := Lib.hid hl
      have hfO : ∀ p ∈ O, Lc.Fit p := fun p hp => HF.out p (by
        rcases diffA_sub (L.take i) [] p (by rw [HO.out]; exact hp) with h | h
        · cases h
        · exact List.mem_of_mem_take h)
      have hnO : O.Nodup := by
        have := diffA_nodup (L.take i) [] List.nodup_nil
        rw [HO.out] at this
        exact this
      have HS := Lib.hid (idxL_at HFit.out O hfO hnO)
      have KA := Lib.hid (HK.out.alloc (.cells #[.int .i64 l.off, .bool l.dst, .string l.abbr] 36))
      have HL := Lib.hid (show diffA [] (L.take (i + 1)) = if l ∈ O then (O, I ++ [posA O l]) else (O ++ [l], I ++ [O.length]) by
        rw [List.take_add_one, HLi.out]
        show diffA [] (L.take i ++ [l]) = _
        rw [diffA_snoc, HO.out])
      clear c0 c1 c2 hl hcell hfO hnO hmm
      by_cases hm : l ∈ O
      · rw [if_pos hm] at HS HL
        obtain ⟨x, hx⟩ : ∃ x, posA O l = x := ⟨_, rfl⟩
        rw [hx] at HS HL
        have hS1 : (idxA lcKey O (lcKey l)).getD (.lit (.int .i64 0)) = .lit (.int .i64 (x : Int)) := by rw [HS.out]; rfl
        have hS2 : (idxA lcKey O (lcKey l)).isSome = true := by rw [HS.out]; rfl
        have HS1 := Lib.hid hS1
        have HS2 := Lib.hid hS2
        clear hS1 hS2 hm hx
        go_wp2_with (first
          | (at_lookup; refine wpList_look_ok_int _ rfl _ _ 93 rfl 36 3 .i64 loc_keyed Tryd.underlying93 Tryd.underlying3 (zero_int _) W.heap.size nm D (idxA lcKey O) HD.out rfl (KA.out.map _ (List.mem_cons_self ..)) _ (lcKey l) rfl (lcKey_is HFit.out.1 HFit.out.2) (x : Int) HS1.out true HS2.out ?_; have K1 := Lib.hid (KA.out.swap.allocAt (wr.heap.size + 1) (by simp) (.cells #[.int .i64 (x : Int)] 3)))
          | (at_builtin; refine wpList_append_own_at _ rfl (.tmp 37) (.tmp 39) 25 rfl W.heap.size 3 j0 (.int .i64 0) 1 8 Tryd.underlying25 hj hy0 hy1 hy2 rfl (by decide) _ I.length _ rfl (K1.out.kp.row 0 rfl) ⟨wr.heap.size + 1, 0, none⟩ 1 1 [.int .i64 (x : Int)] rfl rfl ?c1 ?c2 ?c3 ?c4 ?c5 ?_; (case c1 => exact World.news_of_block (K1.out.kp.at 0 rfl)); (case c2 => simp [Value.oneCell']); (case c3 => unfold maxLen; omega); (case c4 => omega); (case c5 => exact K1.out.below.size); intro v' w1 hown hgrow _ hat; have K2 := Lib.hid (K1.out.append hown hgrow hat).drop.drop.swap; clear hown hgrow hat)
          | go_in)
        go_roundw
        case rel =>
          refine ⟨i + 1, by omega, by go_num, ?_⟩
          unfold Df
          rw [HL.out]
          refine ⟨nm, D, by omega, ?_, HD.out⟩
          dsimp only [dfR]
          rw [nInt_snoc, List.length_append]
          exact K2.out
        case measure => simp [intOf]; omega
      · rw [if_neg hm] at HS HL
        have hS1 : (idxA lcKey O (lcKey l)).getD (.lit (.int .i64 0)) = .lit (.int .i64 0) := by rw [HS.out]; rfl
        have hS2 : (idxA lcKey O (lcKey l)).isSome = false := by rw [HS.out]; rfl
        have HS1 := Lib.hid hS1
        have HS2 := Lib.hid hS2
        clear hS1 hS2 hm
        have hwf := wf_64 (n := (O.length : Int)) (by omega)
        have hnml : nm < maxLen := by unfold maxLen; omega
        have hkey := Lib.hid (lcKey_is HFit.out.1 HFit.out.2)
        have hval := Lib.hid (plainElem_int (H := Unit) (P := Tryd.prog) (q := .i64) Tryd.underlying3 hwf)
        go_upto_region 10 with (first
          | (at_lookup; refine wpList_look_ok_int _ rfl _ _ 93 rfl 36 3 .i64 loc_keyed Tryd.underlying93 Tryd.underlying3 (zero_int _) W.heap.size nm D (idxA lcKey O) HD.out rfl (KA.out.map _ (List.mem_cons_self ..)) _ (lcKey l) rfl (lcKey_is HFit.out.1 HFit.out.2) 0 HS1.out false HS2.out ?_)
          | go_in)
        clear k0 k1 k2
        have KD := Lib.hid (KA.out.drew)
        have KE := Lib.hid (KA.out.allocAt (wr.heap.size + 1) (by simp) (.cells #[.int .i64 l.off, .bool l.dst, .string l.abbr] 36)).drew
        obtain ⟨⟨m0, m1, m2⟩, _, _, _⟩ := row3 (KD.out.kp.at 0 rfl)
        obtain ⟨⟨p0, p1, p2⟩, _, _, _⟩ := row3 (KE.out.kp.at 1 rfl)
        go_region_held_law (fun w' => w'.cell? ⟨wr.heap.size, 0, none⟩ = some (.int .i64 l.off) ∧ w'.cell? ⟨wr.heap.size, 1, none⟩ = some (.bool l.dst) ∧ w'.cell? ⟨wr.heap.size, 2, none⟩ = some (.string l.abbr)) (go_keep)
          (first
            | (refine step_append_lies _ (by rfl) (.tmp 33) (.tmp 35) 32 (by rfl) W.heap.size 36 i0 (.agg #[.int .i64 0, .bool false, .string ⟨#[]⟩]) 3 32 Tryd.underlying32 hi hz0 hz1 hz2 (by rfl) (by decide) _ O.length _ (by rfl) (KE.out.kp.row 0 rfl) ⟨wr.heap.size + 1, 0, none⟩ 1 1 [.int .i64 l.off, .bool l.dst, .string l.abbr] (by rfl) (by rfl) (World.news_of_block (KE.out.kp.at 0 rfl)) (by simp [Value.oneCell']) (by omega) (by unfold maxLen; omega) (by omega) KE.out.below.size _ rfl ?_; intro g cap w1 hown hgrow hat hlt; have K1 := Lib.hid ((KE.out.append hown hgrow (ownAt hat)).drop); obtain ⟨u3, hu3, ou3, gu3⟩ := (K1.out.map _ (List.mem_cons_self ..)).update loc_keyed Tryd.underlying93 hnml hkey.out hval.out; dsimp only [Lc.val] at hu3; have KF := Lib.hid (K1.out.turn gu3 ou3); obtain ⟨⟨x0, x1, x2⟩, _, _, _⟩ := row3 (K1.out.kp.at 0 rfl); obtain ⟨⟨y0, y1, y2⟩, _, _, _⟩ := row3 (KF.out.kp.at 0 rfl); clear hown hgrow hat hlt ou3 gu3))
        all_goals
          have K1 := Lib.hid (KF.out.drop.swap.alloc (.cells #[.int .i64 (O.length : Int)] 3))
          go_wp2_with (first
            | (at_builtin; refine wpList_append_own_at _ rfl (.tmp 37) (.tmp 39) 25 rfl W.heap.size 3 j0 (.int .i64 0) 1 8 Tryd.underlying25 hj hy0 hy1 hy2 rfl (by decide) _ I.length _ rfl (K1.out.kp.row 0 rfl) _ 1 1 [.int .i64 (O.length : Int)] rfl rfl ?c1 ?c2 ?c3 ?c4 ?c5 ?_; (case c1 => exact World.news_of_block (K1.out.kp.at 0 rfl)); (case c2 => simp [Value.oneCell']); (case c3 => unfold maxLen; omega); (case c4 => omega); (case c5 => exact K1.out.below.size); intro v' w1 hown hgrow _ hat; have K2 := Lib.hid (K1.out.append hown hgrow hat).drop.swap; clear hown hgrow hat)
            | go_in)
          go_roundw
          case rel =>
            refine ⟨i + 1, by omega, by go_num, ?_⟩
            unfold Df
            rw [HL.out]
            refine ⟨nm + 1, D.put (lcKey l) (.lit (.int .i64 (O.length : Int))), by omega, ?_, ?_⟩
            · dsimp only [dfR]
              rw [nInt_snoc, lcs_snoc, List.length_append, List.length_append]
              exact K2.out
            · rw [idxA_snoc]
              exact HD.out.put (k := lcKey l) trivial _
          case measure => simp [intOf]; omega
    · obtain rfl : i = n := by omega
      have hLt : L.take i = L := List.take_of_length_le (by have := HN.out; omega)
      have hE : diffA [] L = (O, I) := by rw [← HO.out, hLt]
      have HE := Lib.hid hE
      clear hLt hE hmm
      go_wp2_with fail
      refine bodyPost_ret (v := .tuple #[.slice a5 O.length c5, u6]) (by simp [results, Tryd.results47, go_sem]) rfl ⟨_, _, rfl, ?_⟩
      rw [HE.out]
      exact HK.out.kp
end Go.Proofs.YtkfgonbopgdmgaaDoor.Px
