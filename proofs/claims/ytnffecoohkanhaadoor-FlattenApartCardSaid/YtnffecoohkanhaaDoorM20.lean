/- The function follow of package links: what a name stands for. The function Find of package links. -/
import Derived.Test.YtnffecoohkanhaaDoorYShm
import Derived.Deep.LoopGhost
import Derived.Deep.RegionHeld3
import Derived.Deep.Cut
import Derived.Deep.CutRange
import Derived.Deep.CutBlock
namespace Go.Proofs.YtnffecoohkanhaaDoor.Px
open Go.RowKit
open Go.Maps (Keyed)
open Lk

theorem posA_idx : ∀ (Z : List (List UInt8)) (n : List UInt8), posA Z n = Z.idxOf n
  | [], _ => rfl
  | z :: r, n => by
    rw [posA_cons, List.idxOf_cons, posA_idx r n]
    by_cases h : z = n
    · subst h; simp
    · have : (z == n) = false := by simpa using h
      rw [if_neg h, this]
      rfl
theorem Km.take {L : List (Nat × Obj)} {w X : World} {b n : Nat} {k e : TypeId} {D : DataW Unit} (h : Kp L [] w X) (ho : X.ownsMap Tryd.prog k (plainElem Tryd.prog e) b n D) (hb : w.heap.size ≤ b) (hL : ∀ p ∈ L, p.1 ≠ b) : Km L [] [⟨b, k, e, n, D⟩] w X :=
  ⟨h, fun m hm => by rw [List.mem_singleton.1 hm]; exact ho, fun m hm => by rw [List.mem_singleton.1 hm]; exact hb, fun m hm p hp => by rw [List.mem_singleton.1 hm]; exact hL p hp, (fun m hm r hr => by cases hr), List.pairwise_singleton _ _⟩
theorem tgt_at {L : List (List UInt8 × List UInt8)} {n : List UInt8} (h : n ∈ nm L) : ∃ i t, posA (nm L) n = i ∧ i < L.length ∧ L[i]? = some (n, t) ∧ tgt L n = t := by
  have hi : (nm L).idxOf n < (nm L).length := List.idxOf_lt_length_of_mem h
  have hi2 : (nm L).idxOf n < L.length := by rw [nm_len] at hi; exact hi
  have hg : (nm L)[(nm L).idxOf n]? = some n := by
    rw [List.getElem?_eq_getElem hi]
    exact congrArg some (List.getElem_idxOf hi)
  unfold nm at hg
  rw [List.getElem?_map] at hg
  have hl : L[(nm L).idxOf n]? = some L[(nm L).idxOf n] := List.getElem?_eq_getElem hi2
  have hg2 : (L[(nm L).idxOf n]?).map Prod.fst = some n := hg
  rw [hl] at hg2
  have h1 : (L[(nm L).idxOf n]).1 = n := by simpa using hg2
  refine ⟨_, (L[(nm L).idxOf n]).2, posA_idx _ _, hi2, ?_, ?_⟩
  · rw [hl]
    exact congrArg some (Prod.ext h1 rfl)
  · unfold tgt
    rw [List.getD, hl]
    rfl
set_option maxHeartbeats 8000000 in
set_option maxRecDepth 100000 in
theorem follow_any (rv zv lv sv : Value) (Z : List Zo) (L : List (List UInt8 × List UInt8)) (n : List UInt8) (m1 m2 : Nat) (W : World) (h : SrcV W zv lv Z L) (h1 : MapOf (znames Z) m1 W) (h2 : MapOf (nm L) m2 W) (hn : n.length ≤ maxLen) (_hmax : L.length ≤ 1000000) :
    Calls Tryd.prog 51 #[.agg #[rv, zv, lv, sv], .map (some m1), .map (some m2), .string (bs n)] W fun e w' => e = .returned (.tuple #[.int .i64 ((findL (znames Z) L n).1 : Int), .int .i64 (findL (znames Z) L n).2]) ∧ Below W.heap.size W w' := by
  obtain ⟨la, lc, rfl, hl1, hl2⟩ := h.lk.slA
  have hall := fun h0 => h.lk.allA h0
  have HLn := Lib.hid h.ln
  obtain ⟨q, hq⟩ : ∃ q, L.length = q := ⟨_, rfl⟩
  have HQ := Lib.hid hq
  rw [hq] at hall hl1 ⊢
  unfold maxLen at hl2
  have HA := Lib.hid hall
  have H1 := Lib.hid h1
  have H2 := Lib.hid h2
  obtain ⟨R, hR⟩ : ∃ R, findL (znames Z) L n = R := ⟨_, rfl⟩
  have hfo : followG (znames Z) L (q + 1) [] n = R := by rw [follow_find _ _ _ _ _ (Trail.nil _ _ _), ← hR, ← hq]; rfl
  rw [hR]
  have HFo := Lib.hid hfo
  have HNl := Lib.hid hn
  have KB := Lib.hid ((Kp.start W).allocAt W.heap.size rfl (.cells #[rv, zv, .slice la q lc, sv] 27))
  have h2b := h2.keep ((Below.refl _ W).alloc (Nat.le_refl _) (.cells #[rv, zv, .slice la q lc, sv] 27))
  obtain ⟨n2, D2, hn2, ho2, hf2⟩ := h2b
  have CC := Lib.hid (show Calls Tryd.prog 71 #[.map (some m2)] (W.alloc (.cells #[rv, zv, .slice la q lc, sv] 27)) _ from AnyW.maps_Clone_owns mcLays 9 (plainElem Tryd.prog 3) m2 n2 D2 _ ho2)
  have HF2 := Lib.hid hf2
  have HO2 := Lib.hid hn2
  clear h hall hq h1 h2 hR hfo hn ho2 hf2 hn2
  go_enter Tryd.func51, Tryd.ntmps51
  go_wp2_with fail
  refine CC.out.mono ?_
  rintro e w1 ⟨rfl, hown, _, hB⟩
  rw [World.size_alloc] at hown
  have K1 := Lib.hid (Km.take (KB.out.keep hB) hown (by omega) (fun p hp => by rw [List.mem_singleton.1 hp]; dsimp only; omega))
  clear hown hB CC KB
  rw [World.size_alloc]
  go_wp2_with fail
  go_loopg [3, 11, 12, 13, 14, 15, 16] (q + 1) (fun k v3 _ _ _ _ _ _ wr => ∃ (used : List (List UInt8)) (cur : List UInt8) (n3 : Nat) (D3 : DataW Unit), v3 = .string (bs cur) ∧ used.length + k = q + 1 ∧ Trail (znames Z) L used cur ∧ followG (znames Z) L k used cur = R ∧ cur.length ≤ maxLen ∧ Km [(W.heap.size, .cells #[rv, zv, .slice la q lc, sv] 27 (0, 0))] [] [⟨W.heap.size + 1, 9, 3, n3, D3⟩] W wr ∧ FnOf D3 (restG (nm L) used))
  case atStart => exact ⟨[], n, _, _, rfl, by simp, Trail.nil _ _ _, HFo.out, HNl.out, K1.out, HF2.out⟩
  case round =>
    obtain ⟨used, cur, n3, D3, rfl, hk, htr, hfo, hcl, hK, hD⟩ := hrel
    have htl := htr.len
    rw [HQ.out] at htl
    obtain ⟨k', rfl⟩ : ∃ k', gk = k' + 1 := ⟨gk - 1, by omega⟩
    have HT := Lib.hid htr
    have HK := Lib.hid hK
    have HD := Lib.hid hD
    obtain ⟨N1, D1, _, ho1, hf1⟩ := H1.out.keep hK.below
    obtain ⟨N2, D2, _, ho2, hf2⟩ := H2.out.keep hK.below
    have hkey := Lib.hid (keyN_is hcl)
    have HZ := Lib.hid (firstG_in (znames Z) cur)
    have HN := Lib.hid (firstG_in (nm L) cur)
    have HRs := Lib.hid (restG_in (nm L) used cur)
    have HF1 := Lib.hid hf1
    have HF2' := Lib.hid hf2
    have HO1 := Lib.hid ho1
    have HO2' := Lib.hid ho2
    have hstep : followG (znames Z) L (k' + 1) used cur = if cur ∈ znames Z then ((znames Z).idxOf cur, 0) else if cur ∈ nm L then (if cur ∈ used then (0, 11) else followG (znames Z) L k' (cur :: used) (tgt L cur)) else (0, 9) := rfl
    rw [hstep] at hfo
    obtain ⟨sc, hsc⟩ : ∃ s, bs cur = s := ⟨_, rfl⟩
    rw [hsc] at hkey ⊢
    have HTr := Lib.hid htr
    clear htr hK hD hcl ho1 ho2 hf1 hf2 hstep htl HFo K1 HF2 HO2 HNl
    by_cases hz : cur ∈ znames Z
    · rw [if_pos hz] at hfo HZ
      rw [posA_idx] at HZ
      obtain ⟨p, hp⟩ : ∃ p, (znames Z).idxOf cur = p := ⟨_, rfl⟩
      rw [hp] at hfo HZ
      subst hfo
      have HS1 := Lib.hid (show (firstG (znames Z) (keyN cur)).getD (.lit (.int .i64 0)) = .lit (.int .i64 (p : Int)) by rw [HZ.out]; rfl)
      have HS2 := Lib.hid (show (firstG (znames Z) (keyN cur)).isSome = true by rw [HZ.out]; rfl)
      clear hz hp hsc
      go_wp2_with (first
        | (at_lookup; refine wpList_look_ok_int _ rfl _ _ 98 rfl 9 3 .i64 str_keyed Tryd.underlying98 Tryd.underlying3 (zero_int _) m1 N1 D1 (firstG (znames Z)) HF1.out rfl HO1.out _ (keyN cur) rfl hkey.out (p : Int) HS1.out true HS2.out ?_)
        | go_in)
      refine bodyPost_ret (v := .tuple #[.int .i64 (p : Int), .int .i64 0]) (by simp [results, Tryd.results51, go_sem]) rfl ⟨rfl, HK.out.below⟩
    · rw [if_neg hz] at hfo HZ
      have HS1 := Lib.hid (show (firstG (znames Z) (keyN cur)).getD (.lit (.int .i64 0)) = .lit (.int .i64 0) by rw [HZ.out]; rfl)
      have HS2 := Lib.hid (show (firstG (znames Z) (keyN cur)).isSome = false by rw [HZ.out]; rfl)
      by_cases hl : cur ∈ nm L
      · rw [if_pos hl] at hfo HN
        obtain ⟨p, t, hp, hpq, hpl, htg⟩ := tgt_at hl
        rw [hp] at HN HRs
        have HS5 := Lib.hid (show (firstG (nm L) (keyN cur)).getD (.lit (.int .i64 0)) = .lit (.int .i64 (p : Int)) by rw [HN.out]; rfl)
        have HS6 := Lib.hid (show (firstG (nm L) (keyN cur)).isSome = true by rw [HN.out]; rfl)
        by_cases hu : cur ∈ used
        · rw [if_pos hu] at hfo HRs
          subst hfo
          have HS3 := Lib.hid (show (restG (nm L) used (keyN cur)).getD (.lit (.int .i64 0)) = .lit (.int .i64 0) by rw [HRs.out]; rfl)
          have HS4 := Lib.hid (show (restG (nm L) used (keyN cur)).isSome = false by rw [HRs.out]; rfl)
          clear hz hl hu hp hpq hpl htg hsc
          go_wp2_with (first
            | (at_lookup; refine wpList_look_ok_int _ rfl _ _ 98 rfl 9 3 .i64 str_keyed Tryd.underlying98 Tryd.underlying3 (zero_int _) m1 N1 D1 (firstG (znames Z)) HF1.out rfl HO1.out _ (keyN cur) rfl hkey.out 0 HS1.out false HS2.out ?_)
            | (at_lookup; refine wpList_look_ok_int _ rfl _ _ 98 rfl 9 3 .i64 str_keyed Tryd.underlying98 Tryd.underlying3 (zero_int _) (W.heap.size + 1) n3 D3 (restG (nm L) used) HD.out rfl (HK.out.map _ (List.mem_cons_self ..)) _ (keyN cur) rfl hkey.out 0 HS3.out false HS4.out ?_)
            | (at_lookup; refine wpList_look_ok_int _ rfl _ _ 98 rfl 9 3 .i64 str_keyed Tryd.underlying98 Tryd.underlying3 (zero_int _) m2 N2 D2 (firstG (nm L)) HF2'.out rfl HO2'.out _ (keyN cur) rfl hkey.out (p : Int) HS5.out true HS6.out ?_)
            | go_in)
          refine bodyPost_ret (v := .tuple #[.int .i64 0, .int .i64 11]) (by simp [results, Tryd.results51, go_sem]) rfl ⟨rfl, HK.out.below⟩
        · rw [if_neg hu] at hfo HRs
          rw [if_pos hl] at HRs
          have HS3 := Lib.hid (show (restG (nm L) used (keyN cur)).getD (.lit (.int .i64 0)) = .lit (.int .i64 (p : Int)) by rw [HRs.out]; rfl)
          have HS4 := Lib.hid (show (restG (nm L) used (keyN cur)).isSome = true by rw [HRs.out]; rfl)
          have HFo := Lib.hid hfo
          have HTn := Lib.hid (HTr.out.next _ _ hz hl hu)
          have hDl := HD.out.del (keyN_lit cur)
          rw [restG_del] at hDl
          have HDl := Lib.hid hDl
          obtain ⟨b, o, c', e1, _, _, hb, hcell⟩ := HA.out (by rw [← HQ.out]; omega)
          simp only [Value.slice.injEq] at e1
          obtain ⟨rfl, _, rfl⟩ := e1
          obtain ⟨q0, q1⟩ := lk_at L hpl
          have hc0 := Lib.hid (show W.cell? ⟨b, o + p * 2, none⟩ = some (.string (bs t)) from hcell _ _ q0)
          have htl := Lib.hid (HLn.out _ (List.mem_of_getElem? hpl)).2
          rw [HQ.out] at hpq
          rw [htg] at HFo HTn
          obtain ⟨stt, hst⟩ : ∃ s, bs t = s := ⟨_, rfl⟩
          rw [hst] at hc0
          have HST := Lib.hid hst
          have hpi : (p : Int) < (q : Int) := by omega
          clear hz hl hu hp hpl htg hsc hfo q0 q1 hcell hDl hst
          go_wp2_with (first
            | (at_lookup; refine wpList_look_ok_int _ rfl _ _ 98 rfl 9 3 .i64 str_keyed Tryd.underlying98 Tryd.underlying3 (zero_int _) m1 N1 D1 (firstG (znames Z)) HF1.out rfl HO1.out _ (keyN cur) rfl hkey.out 0 HS1.out false HS2.out ?_)
            | (at_lookup; refine wpList_look_ok_int _ rfl _ _ 98 rfl 9 3 .i64 str_keyed Tryd.underlying98 Tryd.underlying3 (zero_int _) (W.heap.size + 1) n3 D3 (restG (nm L) used) HD.out rfl (HK.out.map _ (List.mem_cons_self ..)) _ (keyN cur) rfl hkey.out (p : Int) HS3.out true HS4.out ?_)
            | (at_lookup; refine wpList_look_ok_int _ rfl _ _ 98 rfl 9 3 .i64 str_keyed Tryd.underlying98 Tryd.underlying3 (zero_int _) m2 N2 D2 (firstG (nm L)) HF2'.out rfl HO2'.out _ (keyN cur) rfl hkey.out (p : Int) HS5.out true HS6.out ?_)
            | (at_delete; refine wpList_delete_own _ rfl _ _ 98 9 rfl 3 str_keyed Tryd.underlying98 _ (W.heap.size + 1) n3 D3 rfl (HK.out.map _ (List.mem_cons_self ..)) _ (keyN cur) rfl hkey.out ?_; intro w4 hown4 hturn4; have KD := Lib.hid (HK.out.turn (hturn4.grown) hown4); have b2 : w4.cell? ⟨W.heap.size, 2, none⟩ = some (.slice (some ⟨b, o, none⟩) q lc) := cells_at (KD.out.kp.at 0 rfl) 2; have k0 := (KD.out.below.cell (p := ⟨b, o + p * 2, none⟩) hb).trans hc0.out; have hbw := Nat.lt_of_lt_of_le hb KD.out.below.size; clear hown4 hturn4)
            | go_in)
          go_roundg k'
          case measure => omega
          case rel =>
            refine ⟨cur :: used, t, n3, _, by rw [HST.out], ?_, HTn.out, HFo.out, htl.out, KD.out, HDl.out⟩
            rw [List.length_cons]
            omega
      · rw [if_neg hl] at hfo HN HRs
        subst hfo
        have hr : restG (nm L) used (keyN cur) = none := by
          rw [HRs.out]
          split <;> rfl
        have HS3 := Lib.hid (show (restG (nm L) used (keyN cur)).getD (.lit (.int .i64 0)) = .lit (.int .i64 0) by rw [hr]; rfl)
        have HS4 := Lib.hid (show (restG (nm L) used (keyN cur)).isSome = false by rw [hr]; rfl)
        have HS5 := Lib.hid (show (firstG (nm L) (keyN cur)).getD (.lit (.int .i64 0)) = .lit (.int .i64 0) by rw [HN.out]; rfl)
        have HS6 := Lib.hid (show (firstG (nm L) (keyN cur)).isSome = false by rw [HN.out]; rfl)
        clear hz hl hr hsc
        go_wp2_with (first
          | (at_lookup; refine wpList_look_ok_int _ rfl _ _ 98 rfl 9 3 .i64 str_keyed Tryd.underlying98 Tryd.underlying3 (zero_int _) m1 N1 D1 (firstG (znames Z)) HF1.out rfl HO1.out _ (keyN cur) rfl hkey.out 0 HS1.out false HS2.out ?_)
          | (at_lookup; refine wpList_look_ok_int _ rfl _ _ 98 rfl 9 3 .i64 str_keyed Tryd.underlying98 Tryd.underlying3 (zero_int _) (W.heap.size + 1) n3 D3 (restG (nm L) used) HD.out rfl (HK.out.map _ (List.mem_cons_self ..)) _ (keyN cur) rfl hkey.out 0 HS3.out false HS4.out ?_)
          | (at_lookup; refine wpList_look_ok_int _ rfl _ _ 98 rfl 9 3 .i64 str_keyed Tryd.underlying98 Tryd.underlying3 (zero_int _) m2 N2 D2 (firstG (nm L)) HF2'.out rfl HO2'.out _ (keyN cur) rfl hkey.out 0 HS5.out false HS6.out ?_)
          | go_in)
        refine bodyPost_ret (v := .tuple #[.int .i64 0, .int .i64 9]) (by simp [results, Tryd.results51, go_sem]) rfl ⟨rfl, HK.out.below⟩
end Go.Proofs.YtnffecoohkanhaaDoor.Px
namespace Go.Proofs.YtnffecoohkanhaaDoor.Px
open Go.RowKit
open Go.Maps (Keyed)
open Lk

theorem bdrew (X : World) : Below X.heap.size X X.drew := Below.drew (Below.refl _ X)
set_option maxHeartbeats 8000000 in
set_option maxRecDepth 100000 in
theorem find_any (rv zv lv sv : Value) (Z : List Zo) (L : List (List UInt8 × List UInt8)) (n : List UInt8) (W : World) (h : SrcV W zv lv Z L) (hn : n.length ≤ maxLen) (hz : Z.length ≤ 1000000) (hl : L.length ≤ 1000000) :
    Calls Tryd.prog 30 #[.agg #[rv, zv, lv, sv], .string (bs n)] W fun e w' => e = .returned (.tuple #[.int .i64 ((findL (znames Z) L n).1 : Int), .int .i64 (findL (znames Z) L n).2]) ∧ Below W.heap.size W w' := by
  have KB := Lib.hid ((Kp.start W).allocAt W.heap.size rfl (.cells #[rv, zv, lv, sv] 27))
  obtain ⟨W1, hW1⟩ : ∃ X, W.alloc (.cells #[rv, zv, lv, sv] 27) = X := ⟨_, rfl⟩
  rw [hW1] at KB
  have HSr := Lib.hid (h.keep KB.out.below)
  have HS := Lib.hid (fun (Y : World) (hB : Below W1.heap.size W1 Y) => (show Y.cell? ⟨W.heap.size, 0, none⟩ = some rv ∧ Y.cell? ⟨W.heap.size, 1, none⟩ = some zv ∧ Y.cell? ⟨W.heap.size, 2, none⟩ = some lv ∧ Y.cell? ⟨W.heap.size, 3, none⟩ = some sv ∧ Below W1.heap.size W1 Y from
    ⟨cells_at ((KB.out.keep hB).at 0 rfl) 0, cells_at ((KB.out.keep hB).at 0 rfl) 1, cells_at ((KB.out.keep hB).at 0 rfl) 2, cells_at ((KB.out.keep hB).at 0 rfl) 3, hB⟩))
  have CZ := Lib.hid (fun (Y : World) (hB : Below W1.heap.size W1 Y) => zones_any rv zv lv sv Z Y (HSr.out.keep hB).zo h.zn hz)
  have CT := Lib.hid (fun (Y : World) (hB : Below W1.heap.size W1 Y) => targets_any rv zv lv sv L Y (HSr.out.keep hB).lk (fun x hx => (h.ln x hx).1) hl)
  have CF := Lib.hid (fun (Y : World) (hB : Below W1.heap.size W1 Y) (m1 m2 : Nat) (h1 : MapOf (znames Z) m1 Y) (h2 : MapOf (nm L) m2 Y) => follow_any rv zv lv sv Z L n m1 m2 Y (HSr.out.keep hB) h1 h2 hn hl)
  obtain ⟨R, hR⟩ : ∃ R, findL (znames Z) L n = R := ⟨_, rfl⟩
  rw [hR] at CF ⊢
  have HB1 := Lib.hid KB.out.below
  clear h hn hz hl hR
  go_enter Tryd.func30, Tryd.ntmps30
  go_upto_region 1 with fail
  clear hW1
  obtain ⟨x0, x1, x2, x3, _⟩ := HS.out W1 (Below.refl _ _)
  have HX0 : Hid (Below W1.heap.size W1 W1.drew) := Lib.hid (bdrew W1)
  go_region_held3 (fun w' => w'.cell? ⟨W.heap.size, 0, none⟩ = some rv ∧ w'.cell? ⟨W.heap.size, 1, none⟩ = some zv ∧ w'.cell? ⟨W.heap.size, 2, none⟩ = some lv ∧ w'.cell? ⟨W.heap.size, 3, none⟩ = some sv ∧ Below W1.heap.size W1 w')
    (first | with_reducible exact HS.out _ HX3.out | with_reducible exact HS.out _ HX2.out | with_reducible exact HS.out _ HX1.out | with_reducible exact HS.out _ HX0.out)
    (first
      | (go_at_call 51; refine (CF.out _ HX2.out _ _ HMz.out HMt.out).mono ?_; rintro e X ⟨rfl, hb⟩; have HX3 : Hid (Below W1.heap.size W1 X) := Lib.hid (HX2.out.trans (hb.mono HX2.out.size)); clear hb)
      | (go_at_call 48; refine (CT.out _ HX1.out).mono ?_; rintro e X ⟨mt, rfl, hm, _, hb⟩; have HMt := Lib.hid hm; have HMz := Lib.hid (HMz1.out.keep hb); have HX2 : Hid (Below W1.heap.size W1 X) := Lib.hid (HX1.out.trans (hb.mono HX1.out.size)); clear hb hm)
      | (go_at_call 47; refine (CZ.out _ HX0.out).mono ?_; rintro e X ⟨mz, rfl, hm, _, hb⟩; have HMz1 := Lib.hid hm; have HX1 : Hid (Below W1.heap.size W1 X) := Lib.hid (HX0.out.trans (hb.mono HX0.out.size)); clear hb hm))
  all_goals
    go_wp2_with fail
    refine bodyPost_ret (v := .tuple #[.int .i64 (R.1 : Int), .int .i64 R.2]) (by simp [results, Tryd.results30, go_sem]) rfl ⟨rfl, HB1.out.trans (HX3.out.mono HB1.out.size)⟩
end Go.Proofs.YtnffecoohkanhaaDoor.Px
