/- The function analemmaref40.Of: the document's table of some changes. -/
import Derived.Test.YtkpmmabdpeobaaaGreatDoorSU21
import Derived.Test.YtkpmmabdpeobaaaGreatDoorSU17
import Derived.Test.YtkpmmabdpeobaaaGreatDoorSU20
import Derived.Deep.RegionHeldLaw
namespace Go.Proofs.YtkpmmabdpeobaaaGreatDoor.Tb
open Px
theorem ofGo_snoc (t : Int) (l : Lc) : ∀ (c : List (Int × Lc)) (ts : List Lc) (xs : List Tr) (b : Lc),
 ofGo ts xs b (c ++ [(t, l)]) = if l = lastL b c then ofGo ts xs b c else (if l ∈ (ofGo ts xs b c).1 then (ofGo ts xs b c).1 else (ofGo ts xs b c).1 ++ [l], (ofGo ts xs b c).2 ++ [⟨t, ((ofGo ts xs b c).1.idxOf l : Nat)⟩])
 | [], ts, xs, b => by
   show ofGo ts xs b [(t, l)] = if l = b then (ts, xs) else (if l ∈ ts then ts else ts ++ [l], xs ++ [⟨t, (ts.idxOf l : Nat)⟩])
   by_cases h1 : l = b
   · simp [ofGo, h1]
   · by_cases h2 : l ∈ ts
     · simp [ofGo, h1, h2]
     · simp [ofGo, h1, h2, List.idxOf_eq_length h2]
 | (u, y) :: r, ts, xs, b => by
   rw [List.cons_append]
   have hl : lastL b ((u, y) :: r) = lastL y r := rfl
   rw [hl]
   by_cases e1 : y = b
   · subst e1
     simp only [ofGo, if_true]
     exact ofGo_snoc t l r ts xs y
   · by_cases e2 : y ∈ ts
     · simp only [ofGo, if_neg e1, if_pos e2]
       exact ofGo_snoc t l r ts _ y
     · simp only [ofGo, if_neg e1, if_neg e2]
       exact ofGo_snoc t l r _ _ y
theorem ofGo_types_len : ∀ (c : List (Int × Lc)) (ts : List Lc) (xs : List Tr) (b : Lc), (ofGo ts xs b c).1.length ≤ ts.length + c.length
 | [], ts, xs, b => by simp [ofGo]
 | (t, l) :: r, ts, xs, b => by
   unfold ofGo
   rw [List.length_cons]
   split
   · have := ofGo_types_len r ts xs b
     omega
   · split
     · have := ofGo_types_len r ts (xs ++ [⟨t, ts.idxOf l⟩]) l
       omega
     · have := ofGo_types_len r (ts ++ [l]) (xs ++ [⟨t, ts.length⟩]) l
       rw [List.length_append, List.length_singleton] at this
       omega
theorem idx_front {ts : List Lc} {l : Lc} {k : Nat} (h : ∀ m y, m < k → ts[m]? = some y → y ≠ l) (hk : ts[k]? = some l) : l ∈ ts ∧ ts.idxOf l = k := by
 have hm : l ∈ ts := List.mem_of_getElem? hk
 have hlt := List.idxOf_lt_length_of_mem hm
 have hat : ts[ts.idxOf l]? = some l := by rw [List.getElem?_eq_getElem hlt, List.getElem_idxOf]
 refine ⟨hm, ?_⟩
 rcases Nat.lt_trichotomy (ts.idxOf l) k with h1 | h1 | h1
 · exact absurd rfl (h _ _ h1 hat)
 · exact h1
 · exfalso
   have := List.not_of_lt_findIdx (p := (· == l)) (xs := ts) (i := k) h1
   obtain ⟨hkl, he⟩ := List.getElem?_eq_some_iff.1 hk
   rw [he] at this
   simp at this
theorem idx_none {ts : List Lc} {l : Lc} (h : ∀ m y, m < ts.length → ts[m]? = some y → y ≠ l) : l ∉ ts ∧ ts.idxOf l = ts.length := by
 have hm : l ∉ ts := by
  intro hm
  obtain ⟨m, hlt, e⟩ := List.getElem_of_mem hm
  exact h m l hlt (by rw [List.getElem?_eq_getElem hlt, e]) rfl
 exact ⟨hm, List.idxOf_eq_length hm⟩
end Go.Proofs.YtkpmmabdpeobaaaGreatDoor.Tb
namespace Go.Proofs.YtkpmmabdpeobaaaGreatDoor.Px
open Go.RowKit
open Civ Tb
theorem of_fit (first : Lc) (at' : List Int) (l : List Lc) (f : List UInt8) (hlen : at'.length = l.length) (hfF : Lc.Fit first) (hfl : ∀ x ∈ l, Lc.Fit x) (hfa : ∀ t ∈ at', (Lit.int .i64 t).wf = true) (hmax : l.length ≤ 1000) :
 TabFit ⟨(ofGo [first] [] first (at'.zip l)).1, (ofGo [first] [] first (at'.zip l)).2, f⟩ := by
 have h2 := of_two at' l [first] [] first hlen (by simp)
 rw [h2]
 constructor
 · intro p hp
   rcases diff_sub l [first] p hp with h | h
   · rw [List.mem_singleton.1 h]; exact hfF
   · exact hfl p h
 · dsimp only
   rw [List.nil_append]
   refine transOf_fit at' _ _ hfa (fun k hk => ?_)
   have := diff_bound l [first] k hk
   simp only [List.length_singleton] at this
   omega
set_option maxHeartbeats 8000000 in
set_option maxRecDepth 100000 in
theorem rof_any (first : Lc) (at' : List Int) (l : List Lc) (av lv : Value) (f : List UInt8) (W : World) (hA : IsV W .i64 av at') (hL : LcV W lv l) (hfF : Lc.Fit first) (hfl : ∀ x ∈ l, Lc.Fit x)
 (hfa : ∀ t ∈ at', (Lit.int .i64 t).wf = true) (hmax : l.length ≤ 1000) :
 Calls Tryz.prog 48 #[first.val, av, lv, .string (bs f)] W fun e w' => ∃ tv rv, e = .returned (.tuple #[.agg #[tv, rv, .string (bs (ofT first at' l f).1.foot)], .int .i64 (ofT first at' l f).2]) ∧
  Kp [] (tabR tv rv (ofT first at' l f).1) W w' ∧ TabFit (ofT first at' l f).1 := by
 obtain ⟨aa, ac, rfl, hac1, hac2⟩ := hA.slice
 obtain ⟨la, lc, rfl, hlc1, hlc2⟩ := hL.slice
 obtain ⟨m, hm⟩ : ∃ m, at'.length = m := ⟨_, rfl⟩
 obtain ⟨n, hn⟩ : ∃ n, l.length = n := ⟨_, rfl⟩
 unfold maxLen at hac2 hlc2
 have hAall := fun h0 => hA.all h0
 have hLall := fun h0 => hL.all h0
 rw [hm] at hac1 hAall ⊢
 rw [hn] at hlc1 hLall hmax ⊢
 have hof := fun h => of_fit first at' l f h hfF hfl hfa (by omega)
 obtain ⟨fo, fd, fa⟩ := first
 unfold Lc.val
 dsimp only
 have K0 := Lib.hid (((Kp.start W).alloc (.cells #[.int .i64 fo, .bool fd, .string fa] 28)).allocAt (W.heap.size + 1) (by simp) (.cells #[.slice none 0 0, .slice none 0 0, .string ⟨#[]⟩] 25))
 by_cases hmn : m = n
 case neg =>
  have h1 : ¬ (m : Int) = (n : Int) := by omega
  rw [ofT_len (by rw [hm, hn]; exact hmn)]
  clear hA hL hAall hLall hfl hfa hm hn hmn hof
  go_enter Tryz.func48, Tryz.ntmps48
  go_wp2_with fail
  refine bodyPost_ret (v := .tuple #[.agg #[.slice none 0 0, .slice none 0 0, .string ⟨#[]⟩], .int .i64 2]) (by simp [results, Tryz.results48, go_sem]) rfl ⟨_, _, rfl, empty_kp K0.out, empty_fit⟩
 subst hmn
 have HFit := Lib.hid (hof (by rw [hm, hn]))
 obtain ⟨C, hC⟩ : ∃ C, at'.zip l = C := ⟨_, rfl⟩
 have hCl : C.length = m := by rw [← hC, List.length_zip, hm, hn]; simp
 have hCat : ∀ (i : Nat) (t : Int) (y : Lc), at'[i]? = some t → l[i]? = some y → C[i]? = some (t, y) := fun i t y h1 h2 => by rw [← hC]; exact List.getElem?_zip_eq_some.2 ⟨h1, h2⟩
 have hofT : ofT ⟨fo, fd, fa⟩ at' l f = if checkE ⟨(ofGo [⟨fo, fd, fa⟩] [] ⟨fo, fd, fa⟩ C).1, (ofGo [⟨fo, fd, fa⟩] [] ⟨fo, fd, fa⟩ C).2, f⟩ = 0 then (⟨(ofGo [⟨fo, fd, fa⟩] [] ⟨fo, fd, fa⟩ C).1, (ofGo [⟨fo, fd, fa⟩] [] ⟨fo, fd, fa⟩ C).2, f⟩, 0) else (⟨[], [], []⟩, checkE ⟨(ofGo [⟨fo, fd, fa⟩] [] ⟨fo, fd, fa⟩ C).1, (ofGo [⟨fo, fd, fa⟩] [] ⟨fo, fd, fa⟩ C).2, f⟩) := by
  unfold ofT
  rw [if_neg (by rw [hm, hn]; simp), hC]
 rw [hC] at HFit
 have HofT := Lib.hid hofT
 have HCl := Lib.hid hCl
 have HCat := Lib.hid hCat
 have HM := Lib.hid hm
 have HN := Lib.hid hn
 have HLl := Lib.hid hLall
 have HAl := Lib.hid hAall
 obtain ⟨j0, hj, hy0, hy1, hy2⟩ := info_parts infoTr
 obtain ⟨i0, hi, hz0, hz1, hz2⟩ := info_parts infoLc
 have K1 := Lib.hid ((K0.out.allocAt (W.heap.size + 2) (by simp) (.cells #[.int .i64 fo, .bool fd, .string fa] 28)).own_block 3 1 1 (by omega) (by unfold maxLen; omega) rfl)
 have K2 := Lib.hid (((K1.out.allocAt (W.heap.size + 3) (by simp) (.cells #[.slice (some ⟨W.heap.size + 2, 0, none⟩) 1 1, .slice none 0 0, .string (bs f)] 25)).allocAt (W.heap.size + 4) (by simp) (.cells #[.int .i64 fo, .bool fd, .string fa] 28)).fresh 36 2)
 have T0 := Lib.hid (show Kp [(W.heap.size + 4, .cells #[.int .i64 (⟨fo, fd, fa⟩ : Lc).off, .bool (⟨fo, fd, fa⟩ : Lc).dst, .string (⟨fo, fd, fa⟩ : Lc).abbr] 28 (0, 0)), (W.heap.size + 3, .cells #[.slice (some ⟨W.heap.size + 2, 0, none⟩) 1 1, .slice none 0 0, .string (bs f)] 25 (0, 0)), (W.heap.size + 1, .cells #[.slice none 0 0, .slice none 0 0, .string ⟨#[]⟩] 25 (0, 0)), (W.heap.size, .cells #[.int .i64 fo, .bool fd, .string fa] 28 (0, 0))] (tabR (.slice (some ⟨W.heap.size + 2, 0, none⟩) 1 1) (.slice none 0 0) ⟨[⟨fo, fd, fa⟩], [], f⟩ ++ []) W _ from K2.out)
 clear hA hL hAall hLall hfl hfa hm hn hof hC hCl hCat hofT K1 K2 hfF
 go_enter Tryz.func48, Tryz.ntmps48
 go_wp2_with fail
 go_loopw [12, 13] (fun v12 _ wr => ∃ (i : Nat) (ts : List Lc) (xs : List Tr) (b : Lc) (tv rv : Value), i ≤ m ∧ v12 = .int .i64 i ∧ ofGo [⟨fo, fd, fa⟩] [] ⟨fo, fd, fa⟩ (C.take i) = (ts, xs) ∧ lastL ⟨fo, fd, fa⟩ (C.take i) = b ∧ Kp [(W.heap.size + 4, .cells #[.int .i64 b.off, .bool b.dst, .string b.abbr] 28 (0, 0)), (W.heap.size + 3, .cells #[tv, rv, .string (bs f)] 25 (0, 0)), (W.heap.size + 1, .cells #[.slice none 0 0, .slice none 0 0, .string ⟨#[]⟩] 25 (0, 0)), (W.heap.size, .cells #[.int .i64 fo, .bool fd, .string fa] 28 (0, 0))] (tabR tv rv ⟨ts, xs, f⟩ ++ []) W wr) (fun v12 _ _ => m - (intOf v12).toNat)
 case atStart => exact ⟨0, [⟨fo, fd, fa⟩], [], ⟨fo, fd, fa⟩, _, _, by omega, rfl, rfl, rfl, T0.out⟩
 case round =>
  obtain ⟨i, ts, xs, ⟨bo, bd, ba⟩, tv, rv, hi', rfl, hof, hla, hK⟩ := hrel
  obtain ⟨ta, tc, rfl⟩ : ∃ a c, tv = .slice a ts.length c := own_slice (hK.row 1 rfl)
  obtain ⟨ra, rc, rfl⟩ : ∃ a c, rv = .slice a xs.length c := own_slice (hK.row 0 rfl)
  have HK := Lib.hid hK
  dsimp only at HK
  have ht1 := ofGo_types_len (C.take i) [⟨fo, fd, fa⟩] [] ⟨fo, fd, fa⟩
  have ht2 := ofGo_len (C.take i) [⟨fo, fd, fa⟩] [] ⟨fo, fd, fa⟩
  rw [hof] at ht1 ht2
  simp only [List.length_singleton, List.length_nil, List.length_take] at ht1 ht2
  have htl : ts.length ≤ 1001 := by omega
  have hxl : xs.length ≤ 1000 := by omega
  clear hK T0 K0 ht1 ht2
  by_cases hlt : i < m
  · obtain ⟨b', o', c', e1, _, _, hb', hcell'⟩ := HAl.out (by omega)
    simp only [Value.slice.injEq] at e1
    obtain ⟨rfl, -, -⟩ := e1
    obtain ⟨b, o, c, e1, _, _, hb, hcell⟩ := HLl.out (by omega)
    simp only [Value.slice.injEq] at e1
    obtain ⟨rfl, -, -⟩ := e1
    obtain ⟨t, ht⟩ : ∃ t, at'[i]? = some t := ⟨_, List.getElem?_eq_getElem (by have := HM.out; omega)⟩
    obtain ⟨⟨lo, ld, lb⟩, hl⟩ : ∃ y, l[i]? = some y := ⟨_, List.getElem?_eq_getElem (by have := HN.out; omega)⟩
    have hnext : C.take (i + 1) = C.take i ++ [(t, ⟨lo, ld, lb⟩)] := by rw [List.take_add_one, HCat.out i t _ ht hl]; rfl
    have hsn := ofGo_snoc t ⟨lo, ld, lb⟩ (C.take i) [⟨fo, fd, fa⟩] [] ⟨fo, fd, fa⟩
    rw [← hnext, hof, hla] at hsn
    have hls : lastL ⟨fo, fd, fa⟩ (C.take (i + 1)) = ⟨lo, ld, lb⟩ := by rw [hnext, lastL_snoc]
    have HSn := Lib.hid hsn
    have HLs := Lib.hid hls
    have HAc := Lib.hid (hcell' i t ht)
    obtain ⟨c0, c1, c2⟩ := hcell i _ hl
    dsimp only at c0 c1 c2
    have HC0 := Lib.hid (And.intro c0 (And.intro c1 c2))
    have k0 := (HK.out.below.cell (p := ⟨b, o + i * 3, none⟩) hb).trans c0
    have k1 := (HK.out.below.cell (p := ⟨b, o + i * 3 + 1, none⟩) hb).trans c1
    have k2 := (HK.out.below.cell (p := ⟨b, o + i * 3 + 2, none⟩) hb).trans c2
    have hbw : b < wr.heap.size := Nat.lt_of_lt_of_le hb HK.out.below.size
    obtain ⟨⟨y0, y1, y2⟩, t0, t1, t2⟩ := row3 (HK.out.at 0 rfl)
    have z4 := HK.out.lt 0 rfl
    have hlt' : (i : Int) < (m : Int) := by omega
    clear hcell hcell' ht hl hnext hsn hls hof hla c0 c1 c2
    by_cases he : (⟨lo, ld, lb⟩ : Lc) = ⟨bo, bd, ba⟩
    · have HOf := Lib.hid (HSn.out.trans (if_pos he))
      simp only [Lc.mk.injEq] at he
      obtain ⟨rfl, rfl, rfl⟩ := he
      go_upto_region 8 with fail
      go_quiet (fail)
      go_wp2_with fail
      go_roundw
      case rel => exact ⟨i + 1, ts, xs, ⟨lo, ld, lb⟩, _, _, by omega, by go_num, HOf.out, HLs.out, HK.out.call (Civ.below_drewN (Below.refl _ _) _) rfl rfl rfl rfl⟩
      case measure => simp [intOf]; omega
    · have HOf0 := Lib.hid (HSn.out.trans (if_neg he))
      have hq := loc_ne he
      dsimp only at hq
      clear he
      go_upto_region 8 with fail
      go_quiet (fail)
      go_wp2_with fail
      generalize hX : wr.drewN _ = X
      have KX0 := HK.out.drewN hX
      have KX := Lib.hid KX0
      clear k0 k1 k2 hbw y0 y1 y2 t0 t1 t2 z4 hX KX0 hq
      have k0 := (KX.out.below.cell (p := ⟨b, o + i * 3, none⟩) hb).trans HC0.out.1
      have k1 := (KX.out.below.cell (p := ⟨b, o + i * 3 + 1, none⟩) hb).trans HC0.out.2.1
      have k2 := (KX.out.below.cell (p := ⟨b, o + i * 3 + 2, none⟩) hb).trans HC0.out.2.2
      have hbw : b < X.heap.size := Nat.lt_of_lt_of_le hb KX.out.below.size
      obtain ⟨⟨y0, y1, y2⟩, t0, t1, t2⟩ := row3 (KX.out.at 0 rfl)
      have z4 := KX.out.lt 0 rfl
      have K9 := Lib.hid (((KX.out.set 0 rfl 0 (.int .i64 lo) rfl).set 0 rfl 1 (.bool ld) rfl).set 0 rfl 2 (.string lb) rfl)
      go_wp2_with fail
      go_loopw [13] (fun v13 wx => ∃ k : Nat, k ≤ ts.length ∧ v13 = .int .i64 k ∧ (∀ (q : Nat) (z : Lc), q < k → ts[q]? = some z → z ≠ ⟨lo, ld, lb⟩) ∧ Kp [(W.heap.size + 4, .cells #[.int .i64 lo, .bool ld, .string lb] 28 (0, 0)), (W.heap.size + 3, .cells #[.slice ta ts.length tc, .slice ra xs.length rc, .string (bs f)] 25 (0, 0)), (W.heap.size + 1, .cells #[.slice none 0 0, .slice none 0 0, .string ⟨#[]⟩] 25 (0, 0)), (W.heap.size, .cells #[.int .i64 fo, .bool fd, .string fa] 28 (0, 0))] (tabR (.slice ta ts.length tc) (.slice ra xs.length rc) ⟨ts, xs, f⟩ ++ []) W wx) (fun v13 _ => ts.length - (intOf v13).toNat)
      case atStart => exact ⟨0, by omega, rfl, fun q z hq => by omega, K9.out⟩
      case round =>
       obtain ⟨k, hk', rfl, hfr, hK9⟩ := hrel
       have KI := Lib.hid hK9
       have HFr := Lib.hid hfr
       clear hK9 hfr K9 k0 k1 k2 hbw y0 y1 y2 t0 t1 t2 z4 KX
       have k0 := (KI.out.below.cell (p := ⟨b, o + i * 3, none⟩) hb).trans HC0.out.1
       have k1 := (KI.out.below.cell (p := ⟨b, o + i * 3 + 1, none⟩) hb).trans HC0.out.2.1
       have k2 := (KI.out.below.cell (p := ⟨b, o + i * 3 + 2, none⟩) hb).trans HC0.out.2.2
       have hbw : b < wr.heap.size := Nat.lt_of_lt_of_le hb KI.out.below.size
       obtain ⟨⟨x0, x1, x2⟩, s0', s1', s2'⟩ := row3 (KI.out.at 1 rfl)
       have z0 := KI.out.lt 1 rfl
       by_cases hk : k < ts.length
       · obtain ⟨⟨zo, zd, za⟩, hz⟩ : ∃ z, ts[k]? = some z := ⟨_, List.getElem?_eq_getElem hk⟩
         obtain ⟨g, rfl, -, -, -, hg⟩ := own_some (KI.out.row 1 rfl) (show 0 < ts.length by omega)
         obtain ⟨d0, d1, d2⟩ := lc_cell (KI.out.row 1 rfl) hz
         dsimp only at d0 d1 d2
         have hki : (k : Int) < (ts.length : Int) := by omega
         by_cases hze : (⟨zo, zd, za⟩ : Lc) = ⟨lo, ld, lb⟩
         · obtain ⟨hmem, hidx⟩ := idx_front (ts := ts) HFr.out (by rw [← hze]; exact hz)
           have HOf := Lib.hid (HOf0.out.trans (by rw [if_pos hmem, hidx]))
           simp only [Lc.mk.injEq] at hze
           obtain ⟨rfl, rfl, rfl⟩ : lo = zo ∧ ld = zd ∧ lb = za := ⟨hze.1.symm, hze.2.1.symm, hze.2.2.symm⟩
           have hne : ¬ (k : Int) = (ts.length : Int) := by omega
           clear hmem hidx hz
           go_upto_region 11 with fail
           go_quiet (fail)
           go_upto_region 13 with fail
           generalize hX2 : wr.drewN _ = X2
           have KY := Lib.hid (show Kp _ [⟨.slice ra xs.length rc, 36, 2, xs.length, xs.flatMap Tr.cells⟩, ⟨.slice (some ⟨g, 0, none⟩) ts.length tc, 28, 3, ts.length, ts.flatMap Lc.cells⟩] W X2 from KI.out.drewN hX2)
           clear hX2 k0 k1 k2 hbw x0 x1 x2 s0' s1' s2' z0 d0 d1 d2 hg
           obtain ⟨⟨x0, x1, x2⟩, s0', s1', s2'⟩ := row3 (KY.out.at 1 rfl)
           have z0 := KY.out.lt 1 rfl
           have a0 := (KY.out.below.cell (p := ⟨b', o' + i, none⟩) hb').trans HAc.out
           have hbw' := Nat.lt_of_lt_of_le hb' KY.out.below.size
           go_upto_region 15 with fail
           go_region_law ((refine step_append_kp (by rfl) (.tmp 76) (.tmp 83) 23 (by rfl) (KY.out.alloc _).drew j0 (.agg #[.int .i64 0, .int .i64 0]) 16 Tryz.underlying23 hj hy0 hy1 hy2 (by rfl) (by decide) (by rfl) 0 _ _ _ (by rfl) 1 1 (by rfl) (by rfl) (by simp [Value.oneCell']) (by omega) (by omega) (by omega) ?_; intro gq capq w2 hk; have KB := Lib.hid hk.drop; obtain ⟨⟨x0, x1, x2⟩, s0', s1', s2'⟩ := row3 (KB.out.at 1 rfl); have z0 := KB.out.lt 1 rfl; clear hk))
           all_goals
            go_wp2_with fail
            go_roundw
            case rel =>
             refine ⟨i + 1, ts, xs ++ [⟨t, (k : Int)⟩], ⟨lo, ld, lb⟩, .slice (some ⟨g, 0, none⟩) ts.length tc, .slice (some ⟨gq, 0, none⟩) (xs.length + 1) capq, by omega, by go_num, HOf.out, HLs.out, ?_⟩
             have KZ := KB.out.set 1 rfl 1 (.slice (some ⟨gq, 0, none⟩) (xs.length + 1) capq) rfl
             unfold tabR
             dsimp only
             rw [trs_snoc, List.length_append]
             exact KZ
            case measure => simp [intOf]; omega
         · have HFr2 := Lib.hid (show ∀ (q : Nat) (z : Lc), q < k + 1 → ts[q]? = some z → z ≠ ⟨lo, ld, lb⟩ from fun q z hq hz2 => by
             rcases (show q < k ∨ q = k by omega) with h | rfl
             · exact HFr.out q z h hz2
             · rw [hz] at hz2
               cases hz2
               exact hze)
           have hq := loc_ne2 hze
           dsimp only at hq
           clear hze hz
           go_upto_region 11 with fail
           go_quiet (fail)
           go_wp2_with fail
           go_roundw
           case rel => exact ⟨k + 1, by omega, by go_num, HFr2.out, KI.out.call (Civ.below_drewN (Below.refl _ _) _) rfl rfl rfl rfl⟩
           case measure => simp [intOf]; omega
       · obtain rfl : k = ts.length := by omega
         obtain ⟨hno, hidx⟩ := idx_none HFr.out
         have HOf := Lib.hid (HOf0.out.trans (by rw [if_neg hno, hidx]))
         clear hno hidx hk
         go_upto_region 11 with fail
         go_quiet (fail)
         go_upto_region 13 with fail
         generalize hX2 : wr.drewN _ = X2
         have KW := Lib.hid (show Kp _ [⟨.slice ra xs.length rc, 36, 2, xs.length, xs.flatMap Tr.cells⟩, ⟨.slice ta ts.length tc, 28, 3, ts.length, ts.flatMap Lc.cells⟩] W X2 from KI.out.drewN hX2)
         clear hX2 k0 k1 k2 hbw x0 x1 x2 s0' s1' s2' z0
         have k0 := (KW.out.below.cell (p := ⟨b, o + i * 3, none⟩) hb).trans HC0.out.1
         have k1 := (KW.out.below.cell (p := ⟨b, o + i * 3 + 1, none⟩) hb).trans HC0.out.2.1
         have k2 := (KW.out.below.cell (p := ⟨b, o + i * 3 + 2, none⟩) hb).trans HC0.out.2.2
         have hbw : b < X2.heap.size := Nat.lt_of_lt_of_le hb KW.out.below.size
         obtain ⟨⟨x0, x1, x2⟩, s0', s1', s2'⟩ := row3 (KW.out.at 1 rfl)
         have z0 := KW.out.lt 1 rfl
         go_upto_region 14 with fail
         go_region_law ((refine step_append_kp (by rfl) (.tmp 67) (.tmp 72) 22 (by rfl) (KW.out.swap.alloc _).drew i0 (.agg #[.int .i64 0, .bool false, .string ⟨#[]⟩]) 32 Tryz.underlying22 hi hz0 hz1 hz2 (by rfl) (by decide) (by rfl) 0 _ _ _ (by rfl) 1 1 (by rfl) (by rfl) (by simp [Value.oneCell']) (by omega) (by omega) (by omega) ?_; intro gp capp w1 hk; have KV := Lib.hid hk.drop; obtain ⟨⟨x0, x1, x2⟩, s0', s1', s2'⟩ := row3 (KV.out.at 1 rfl); have z0 := KV.out.lt 1 rfl; clear hk))
         all_goals
          have KY := Lib.hid (KV.out.set 1 rfl 0 (.slice (some ⟨gp, 0, none⟩) (ts.length + 1) capp) rfl).swap
          obtain ⟨⟨x0, x1, x2⟩, s0', s1', s2'⟩ := row3 (KY.out.at 1 rfl)
          have z0 := KY.out.lt 1 rfl
          have a0 := (KY.out.below.cell (p := ⟨b', o' + i, none⟩) hb').trans HAc.out
          have hbw' := Nat.lt_of_lt_of_le hb' KY.out.below.size
          go_upto_region 15 with fail
          go_region_law ((refine step_append_kp (by rfl) (.tmp 76) (.tmp 83) 23 (by rfl) (KY.out.allocAt w1.heap.size (by simp) _).drew j0 (.agg #[.int .i64 0, .int .i64 0]) 16 Tryz.underlying23 hj hy0 hy1 hy2 (by rfl) (by decide) (by rfl) 0 _ _ _ (by rfl) 1 1 (by rfl) (by rfl) (by simp [Value.oneCell']) (by omega) (by omega) (by omega) ?_; intro gq capq w2 hk; have KB := Lib.hid hk.drop; obtain ⟨⟨x0, x1, x2⟩, s0', s1', s2'⟩ := row3 (KB.out.at 1 rfl); have z0 := KB.out.lt 1 rfl; clear hk))
          all_goals
           go_wp2_with fail
           go_roundw
           case rel =>
            refine ⟨i + 1, ts ++ [⟨lo, ld, lb⟩], xs ++ [⟨t, ((ts.length : Nat) : Int)⟩], ⟨lo, ld, lb⟩, .slice (some ⟨gp, 0, none⟩) (ts.length + 1) capp, .slice (some ⟨gq, 0, none⟩) (xs.length + 1) capq, by omega, by go_num, HOf.out, HLs.out, ?_⟩
            have KZ := KB.out.set 1 rfl 1 (.slice (some ⟨gq, 0, none⟩) (xs.length + 1) capq) rfl
            unfold tabR
            dsimp only
            rw [trs_snoc, lcs_snoc, List.length_append, List.length_append]
            exact KZ
           case measure => simp [intOf]; omega
  · obtain rfl : i = m := by omega
    rw [List.take_of_length_le (by rw [HCl.out]; omega)] at hof
    have hfit := HFit.out
    have hofT := HofT.out
    rw [hof] at hfit hofT
    dsimp only at hfit hofT
    have HR := Lib.hid hofT
    have HFt := Lib.hid hfit
    have TBv : Hid (TabV wr (.slice ta ts.length tc) (.slice ra xs.length rc) (bs f) ⟨ts, xs, f⟩) := Lib.hid (HK.out.tab hfit)
    have CK := Lib.hid (rcheck_any ⟨ts, xs, f⟩ (.slice ta ts.length tc) (.slice ra xs.length rc) (bs f) wr TBv.out)
    obtain ⟨E, hE2⟩ : ∃ E, checkE ⟨ts, xs, f⟩ = E := ⟨_, rfl⟩
    rw [hE2] at CK HR
    clear hE2 hof hla hfit hofT
    obtain ⟨⟨x0, x1, x2⟩, s0, s1, s2⟩ := row3 (HK.out.at 1 rfl)
    have z0 := HK.out.lt 1 rfl
    go_wp2_with fail
    refine (CK.out).mono ?_
    rintro _ V2 ⟨rfl, hb2⟩
    have K1 := Lib.hid (HK.out.keep hb2)
    clear hb2 x0 x1 x2 s0 s1 s2 z0
    obtain ⟨⟨x0, x1, x2⟩, s0, s1, s2⟩ := row3 (K1.out.at 1 rfl)
    obtain ⟨⟨y0, y1, y2⟩, t0, t1, t2⟩ := row3 (K1.out.at 2 rfl)
    have z0 := K1.out.lt 1 rfl
    have z1 := K1.out.lt 2 rfl
    by_cases hE0 : E = 0
    · subst hE0
      rw [if_pos rfl] at HR
      go_wp2_with fail
      refine bodyPost_ret (v := .tuple #[.agg #[.slice ta ts.length tc, .slice ra xs.length rc, .string (bs f)], .int .i64 0]) (by simp [results, Tryz.results48, go_sem, y0, y1, y2]) rfl ?_
      rw [HR.out]
      have KS := Lib.hid (((K1.out.set 2 rfl 0 (.slice ta ts.length tc) rfl).set 2 rfl 1 (.slice ra xs.length rc) rfl).set 2 rfl 2 (.string (bs f)) rfl)
      exact ⟨_, _, rfl, (KS.out.pick (List.nil_sublist _)).less (List.sublist_append_left _ _), HFt.out⟩
    · rw [if_neg hE0] at HR
      go_wp2_with fail
      refine bodyPost_ret (v := .tuple #[.agg #[.slice none 0 0, .slice none 0 0, .string ⟨#[]⟩], .int .i64 E]) (by simp [results, Tryz.results48, go_sem, y0, y1, y2]) rfl ?_
      rw [HR.out]
      first
       | exact ⟨_, _, rfl, empty_kp K1.out, empty_fit⟩
       | exact ⟨_, _, rfl, empty_kp (((K1.out.set 2 rfl 0 _ rfl).set 2 rfl 1 _ rfl).set 2 rfl 2 _ rfl), empty_fit⟩
end Go.Proofs.YtkpmmabdpeobaaaGreatDoor.Px
