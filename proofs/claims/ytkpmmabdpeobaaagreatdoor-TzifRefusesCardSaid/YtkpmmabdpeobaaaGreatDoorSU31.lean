/- The method Made of a draft of chapter 40: the right table of a draft, by the document alone. -/
import Derived.Test.YtkpmmabdpeobaaaGreatDoorSU25
import Derived.Test.YtkpmmabdpeobaaaGreatDoorSU24
import Derived.Test.YtkpmmabdpeobaaaGreatDoorSU30
import Derived.Deep.RegionHeldLaw
import Derived.Test.YtkpmmabdpeobaaaGreatDoorSU29
import Derived.Test.YtkpmmabdpeobaaaGreatDoorSU28
namespace Go.Proofs.YtkpmmabdpeobaaaGreatDoor.Tb
open Px
theorem goD_snoc (ts : List Lc) (nx : List Int) (s : Int) : ∀ (r : List Int) (t : Int) (i : Nat), goD ts nx t i (r ++ [s]) = goD ts nx t i r ++ [(goT t r + (1 + s), ts.getD (nxK nx (i + r.length) % ts.length) Lc.zero)]
 | [], _, _ => rfl
 | x :: r, t, i => by
   rw [List.cons_append]
   unfold goD
   rw [goD_snoc ts nx s r, List.cons_append, List.length_cons, show i + (r.length + 1) = i + 1 + r.length by omega]
   rfl
theorem goT_snoc (s : Int) : ∀ (r : List Int) (t : Int), goT t (r ++ [s]) = goT t r + (1 + s)
 | [], _ => rfl
 | _ :: r, _ => goT_snoc s r _
theorem goD_len (ts : List Lc) (nx : List Int) : ∀ (r : List Int) (t : Int) (i : Nat), (goD ts nx t i r).length = r.length
 | [], _, _ => rfl
 | s :: r, t, i => by unfold goD; rw [List.length_cons, List.length_cons, goD_len ts nx r]
end Go.Proofs.YtkpmmabdpeobaaaGreatDoor.Tb
namespace Go.Proofs.YtkpmmabdpeobaaaGreatDoor.Px
open Go.RowKit
open Civ Tb
theorem zip_pairs : ∀ g : List (Int × Lc), (g.map Prod.fst).zip (g.map Prod.snd) = g
 | [] => rfl
 | x :: r => by rw [List.map_cons, List.map_cons, List.zip_cons_cons, zip_pairs r]
theorem ofT_made40 (d : D40) (h : d.In) : ofT d.first (d.changes.map Prod.fst) (d.changes.map Prod.snd) (printL d.pos) = (d.made, 0) := by
 unfold ofT
 rw [if_neg (by simp), zip_pairs]
 have hr := made_right d h
 unfold D40.made at hr ⊢
 rw [if_pos hr]
theorem locN_fit (n : Int) : Lc.Fit (locN n) := by
 obtain ⟨_, h2, _, h4, h5⟩ := locN_good n
 exact ⟨wf_64 (by omega), by unfold maxLen; omega⟩
set_option maxHeartbeats 16000000 in
set_option maxRecDepth 100000 in
theorem made40_any (TY ST NX : List Int) (be fo ba : Int) (tv sv nv : Value) (W : World) (h : D40V W tv sv nv ⟨TY, ST, NX, be, fo, ba⟩) (hin : D40.In ⟨TY, ST, NX, be, fo, ba⟩) :
 Calls Tryz.prog 19 #[.agg #[tv, sv, nv, .int .i32 be, .int .u8 fo, .int .u8 ba]] W fun e w' =>
  ∃ tv' rv', e = .returned (.tuple #[.agg #[tv', rv', .string (bs (D40.made ⟨TY, ST, NX, be, fo, ba⟩).foot)], .bool true]) ∧ Kp [] (tabR tv' rv' (D40.made ⟨TY, ST, NX, be, fo, ba⟩)) W w' ∧ TabFit (D40.made ⟨TY, ST, NX, be, fo, ba⟩) := by
 have hgood := goodP_iff (posix_good fo ba)
 obtain ⟨ta, tc, htv, _, _⟩ := h.types.slice
 obtain ⟨sa, sc, hsv, _, _⟩ := h.steps.slice
 obtain ⟨na, nc, hnv, _, _⟩ := h.next.slice
 have hTall := fun h0 => h.types.all h0
 have hSall := fun h0 => h.steps.all h0
 have hNall := fun h0 => h.next.all h0
 have hInT := hin.ty
 have hInS := hin.st
 have hInN := hin.nx
 have hbe := hin.be
 have hfo := hin.fo
 have hba := hin.ba
 dsimp only at htv hsv hnv hTall hSall hNall hInT hInS hInN hbe hfo hba
 obtain ⟨TN, hTN⟩ : ∃ n, TY.length = n := ⟨_, rfl⟩
 obtain ⟨SN, hSN⟩ : ∃ n, ST.length = n := ⟨_, rfl⟩
 obtain ⟨NN, hNN⟩ : ∃ n, NX.length = n := ⟨_, rfl⟩
 rw [hTN] at htv hTall
 rw [hSN] at hsv hSall
 rw [hNN] at hnv hNall
 subst htv hsv hnv
 obtain ⟨DD, hD⟩ : ∃ D, (⟨TY, ST, NX, be, fo, ba⟩ : D40) = D := ⟨_, rfl⟩
 rw [hD] at hin ⊢
 have hpos : DD.pos = posixN fo ba := by rw [← hD]; rfl
 have CP := Lib.hid (fun w => posixes_any fo ba hfo.1 hfo.2 hba.1 hba.2 w)
 have CR := Lib.hid (fun w => rprt_any (posixN fo ba) (by have := hgood.s0; omega) (by have := hgood.s1; omega) w)
 rw [show printP (posixN fo ba) = (printL (posixN fo ba), 0) by unfold printP; rw [hgood.ok, if_pos rfl]] at CR
 have CA := Lib.hid (fun t w => ratL_any (posixN fo ba) t (by have := hgood.s0; omega) (by have := hgood.s1; omega) w)
 have CL := Lib.hid (fun n n0 n1 w => local_any n n0 n1 w)
 obtain ⟨P, hP⟩ : ∃ P, posixN fo ba = P := ⟨_, rfl⟩
 rw [hP] at CP CR CA hpos hgood
 obtain ⟨S, hS⟩ : ∃ S, printL P = S := ⟨_, rfl⟩
 rw [hS] at CR
 have hA0 := fun t t0 t1 => (atL_good hgood (t := t) t0 t1).1
 obtain ⟨a, b, c, o, ⟨e1, e2, e3, e4, e5⟩, ⟨p1, p2, p3, p4, p5⟩⟩ := P
 unfold Pos.val at CP CR CA
 dsimp only at CP CR CA
 have HD := Lib.hid hD
 have HPos := Lib.hid hpos
 have HS := Lib.hid hS
 have HA0 := Lib.hid hA0
 have HIn := Lib.hid hin
 have HTa := Lib.hid hTall
 have HSa := Lib.hid hSall
 have HNa := Lib.hid hNall
 have HIT := Lib.hid hInT
 have HIS := Lib.hid hInS
 have HIN := Lib.hid hInN
 have HTN := Lib.hid hTN
 have HSN := Lib.hid hSN
 have HNN := Lib.hid hNN
 have HBe := Lib.hid hbe
 have K0 := Lib.hid (((Kp.start W).alloc (.cells #[.slice ta TN tc, .slice sa SN sc, .slice na NN nc, .int .i32 be, .int .u8 fo, .int .u8 ba] 41)).allocAt (W.heap.size + 1) (by simp) (.cells #[.slice none 0 0, .slice none 0 0, .string ⟨#[]⟩] 25))
 obtain ⟨j0, hj, hy0, hy1, hy2⟩ := info_parts infoI64
 obtain ⟨i0, hi, hz0, hz1, hz2⟩ := info_parts infoLc
 clear h hin hgood hD hpos hP hS hA0 hTall hSall hNall hInT hInS hInN hTN hSN hNN hfo hba
 go_enter Tryz.func19, Tryz.ntmps19
 go_wp2_with fail
 refine (CP.out _).mono ?_
 rintro _ V ⟨rfl, hb⟩
 have K1 := Lib.hid ((K0.out.keep hb).alloc (.cells #[.string a, .int .i64 b, .string c, .int .i64 o, .int .i64 e1, .int .i64 e2, .int .i64 e3, .int .i64 e4, .int .i64 e5, .int .i64 p1, .int .i64 p2, .int .i64 p3, .int .i64 p4, .int .i64 p5] 50))
 clear hb
 go_wp2_with fail
 refine (CR.out _).mono ?_
 rintro _ V2 ⟨rfl, hb⟩
 have K2 := Lib.hid (K1.out.keep hb)
 clear hb
 have CL0 := CL.out 0 (by omega) (by omega)
 obtain ⟨⟨lo, ld, la⟩, hl0⟩ : ∃ l, locN 0 = l := ⟨_, rfl⟩
 rw [hl0] at CL0
 unfold Lc.val at CL0
 dsimp only at CL0
 have CL1 := Lib.hid CL0
 have HL0 := Lib.hid hl0
 clear CL0 hl0
 go_wp2_with fail
 refine (CL1.out _).mono ?_
 rintro _ V3 ⟨rfl, hb⟩
 have K3 := Lib.hid (((K2.out.keep hb).alloc (.cells #[.int .i64 lo, .bool ld, .string la] 28)).own_block 3 1 1 (by omega) (by unfold maxLen; omega) rfl)
 have T0 := Lib.hid (show Kp [(V.heap.size, .cells #[.string a, .int .i64 b, .string c, .int .i64 o, .int .i64 e1, .int .i64 e2, .int .i64 e3, .int .i64 e4, .int .i64 e5, .int .i64 p1, .int .i64 p2, .int .i64 p3, .int .i64 p4, .int .i64 p5] 50 (0, 0)), (W.heap.size + 1, .cells #[.slice none 0 0, .slice none 0 0, .string ⟨#[]⟩] 25 (0, 0)), (W.heap.size, .cells #[.slice ta TN tc, .slice sa SN sc, .slice na NN nc, .int .i32 be, .int .u8 fo, .int .u8 ba] 41 (0, 0))] [⟨.slice (some ⟨V3.heap.size, 0, none⟩) 1 1, 28, 3, 1 + 0, (locN 0 :: (TY.take 0).map locN).flatMap Lc.cells⟩] W _ by
  rw [HL0.out]
  exact K3.out)
 clear hb K0 K1 K2 K3
 go_wp2_with fail
 go_loopw [7, 8] (fun v7 v8 wr => ∃ i : Nat, i ≤ TN ∧ i ≤ 9 ∧ v8 = .int .i64 i ∧ Kp [(V.heap.size, .cells #[.string a, .int .i64 b, .string c, .int .i64 o, .int .i64 e1, .int .i64 e2, .int .i64 e3, .int .i64 e4, .int .i64 e5, .int .i64 p1, .int .i64 p2, .int .i64 p3, .int .i64 p4, .int .i64 p5] 50 (0, 0)), (W.heap.size + 1, .cells #[.slice none 0 0, .slice none 0 0, .string ⟨#[]⟩] 25 (0, 0)), (W.heap.size, .cells #[.slice ta TN tc, .slice sa SN sc, .slice na NN nc, .int .i32 be, .int .u8 fo, .int .u8 ba] 41 (0, 0))] [⟨v7, 28, 3, 1 + i, (locN 0 :: (TY.take i).map locN).flatMap Lc.cells⟩] W wr) (fun _ v8 _ => 9 - (intOf v8).toNat)
 case atStart => exact ⟨0, by omega, by omega, rfl, T0.out⟩
 case round =>
  obtain ⟨i, hi1, hi2, rfl, hK⟩ := hrel
  obtain ⟨ua, uc, rfl⟩ : ∃ a c, u7 = .slice a (1 + i) c := own_slice (hK.row 0 rfl)
  have HK := Lib.hid hK
  clear hK T0
  have q0 : wr.cell? ⟨W.heap.size, 0, none⟩ = some (.slice ta TN tc) := cells_at (HK.out.at 2 rfl) 0
  have z0 := HK.out.lt 2 rfl
  go_upto_region 7 with fail
  go_cut [39] (fun v39 wx => v39 = .bool (decide (i < TN ∧ i < 9)) ∧ Kp [(V.heap.size, .cells #[.string a, .int .i64 b, .string c, .int .i64 o, .int .i64 e1, .int .i64 e2, .int .i64 e3, .int .i64 e4, .int .i64 e5, .int .i64 p1, .int .i64 p2, .int .i64 p3, .int .i64 p4, .int .i64 p5] 50 (0, 0)), (W.heap.size + 1, .cells #[.slice none 0 0, .slice none 0 0, .string ⟨#[]⟩] 25 (0, 0)), (W.heap.size, .cells #[.slice ta TN tc, .slice sa SN sc, .slice na NN nc, .int .i32 be, .int .u8 fo, .int .u8 ba] 41 (0, 0))] [⟨.slice ua (1 + i) uc, 28, 3, 1 + i, (locN 0 :: (TY.take i).map locN).flatMap Lc.cells⟩] W wx)
  case first =>
   by_cases h1 : i < TN
   · have j1 : (i : Int) < (TN : Int) := by omega
     by_cases h2 : i < 9
     · have j2 : (i : Int) < 9 := by omega
       have HQ := Lib.hid (decide_eq_true (And.intro h1 h2))
       clear h1 h2
       go_wp2_with fail
       go_meet
       exact ⟨by rw [HQ.out], HK.out⟩
     · have j2 : ¬ (i : Int) < 9 := by omega
       have HQ := Lib.hid (decide_eq_false (fun q : i < TN ∧ i < 9 => h2 q.2))
       clear h1 h2
       go_wp2_with fail
       go_meet
       exact ⟨by rw [HQ.out], HK.out⟩
   · have j1 : ¬ (i : Int) < (TN : Int) := by omega
     have HQ := Lib.hid (decide_eq_false (fun q : i < TN ∧ i < 9 => h1 q.1))
     clear h1
     go_wp2_with fail
     go_meet
     exact ⟨by rw [HQ.out], HK.out⟩
  case rest =>
   obtain ⟨rfl, hk⟩ := hcut
   clear HK q0 z0
   have HK := Lib.hid hk
   clear hk
   have q0 : wc.cell? ⟨W.heap.size, 0, none⟩ = some (.slice ta TN tc) := cells_at (HK.out.at 2 rfl) 0
   have z0 := HK.out.lt 2 rfl
   by_cases hlt : i < TN ∧ i < 9
   · rw [decide_eq_true hlt]
     obtain ⟨l1, l2⟩ := hlt
     obtain ⟨bt, ot, ct, e0, _, _, hbt, hcell⟩ := HTa.out (by omega)
     simp only [Value.slice.injEq] at e0
     obtain ⟨rfl, -, -⟩ := e0
     obtain ⟨x, hx⟩ : ∃ x, TY[i]? = some x := ⟨_, List.getElem?_eq_getElem (by rw [HTN.out]; exact l1)⟩
     obtain ⟨x0, x1⟩ := HIT.out x (List.mem_of_getElem? hx)
     have a0 := (HK.out.below.cell (p := ⟨bt, ot + i, none⟩) hbt).trans (hcell i x hx)
     have hbw : bt < wc.heap.size := Nat.lt_of_lt_of_le hbt HK.out.below.size
     have hnext : (locN 0 :: (TY.take (i + 1)).map locN).flatMap Lc.cells = (locN 0 :: (TY.take i).map locN).flatMap Lc.cells ++ [.int .i64 (locN x).off, .bool (locN x).dst, .string (locN x).abbr] := by
      rw [List.take_add_one, hx, Option.toList_some, List.map_append, ← List.cons_append]
      exact lcs_snoc _ _
     have CLx := CL.out x x0 x1
     obtain ⟨⟨mo, md, ma⟩, hlx⟩ : ∃ l, locN x = l := ⟨_, rfl⟩
     rw [hlx] at CLx hnext
     unfold Lc.val at CLx
     dsimp only at CLx hnext
     have CL2 := Lib.hid CLx
     have HX := Lib.hid hnext
     have j1 : (i : Int) < (TN : Int) := by omega
     clear hcell hx hlx CLx hnext
     go_wp2_with fail
     refine (CL2.out _).mono ?_
     rintro _ V4 ⟨rfl, hb⟩
     have KA := Lib.hid ((HK.out.keep hb).alloc (.cells #[.int .i64 mo, .bool md, .string ma] 28))
     clear hb q0 z0 a0
     go_wp2_with (first
      | (at_builtin; refine wpList_append_own_at _ rfl (.tmp 42) (.tmp 49) 22 rfl W.heap.size 28 i0 (.agg #[.int .i64 0, .bool false, .string ⟨#[]⟩]) 3 32 Tryz.underlying22 hi hz0 hz1 hz2 rfl (by decide) _ (1 + i) _ rfl (KA.out.row 0 rfl) ⟨V4.heap.size, 0, none⟩ 1 1 [.int .i64 mo, .bool md, .string ma] rfl rfl ?c1 ?c2 ?c3 ?c4 ?c5 ?_; (case c1 => exact World.news_of_block (KA.out.at 0 rfl)); (case c2 => simp [Value.oneCell']); (case c3 => unfold maxLen; omega); (case c4 => omega); (case c5 => exact KA.out.below.size); intro v' w1 hown hgrow _ hat; have KB := Lib.hid (KA.out.append hown hgrow hat).drop; clear hown hgrow hat))
     go_roundw
     case rel => exact ⟨i + 1, by omega, by omega, by go_num, by rw [HX.out]; exact KB.out⟩
     case measure => simp [intOf]; omega
   · rw [decide_eq_false hlt]
     have h9 : TY.take i = TY.take 9 := by
      rcases Nat.lt_or_ge i 9 with h | h
      · rw [List.take_of_length_le (by rw [HTN.out]; omega), List.take_of_length_le (by rw [HTN.out]; omega)]
      · rw [show i = 9 by omega]
     rw [h9] at HK
     obtain ⟨TS, hTS⟩ : ∃ ts, locN 0 :: (TY.take 9).map locN = ts := ⟨_, rfl⟩
     obtain ⟨M, hM⟩ : ∃ m, 1 + i = m := ⟨_, rfl⟩
     have hTl : TS.length = M := by
      rw [← hTS, ← h9, List.length_cons, List.length_map, List.length_take, HTN.out, Nat.min_eq_left hi1]
      omega
     rw [hTS, hM] at HK
     rw [hM]
     have HTS := Lib.hid hTS
     have HTl := Lib.hid hTl
     have hM1 : 1 ≤ M ∧ M ≤ 10 := by omega
     obtain ⟨hM1, hM2⟩ := hM1
     obtain ⟨hbe0, hbe1⟩ := HBe.out
     have q3 : wc.cell? ⟨W.heap.size, 3, none⟩ = some (.int .i32 be) := cells_at (HK.out.at 2 rfl) 3
     have T1 := Lib.hid (show Kp [(V.heap.size, .cells #[.string a, .int .i64 b, .string c, .int .i64 o, .int .i64 e1, .int .i64 e2, .int .i64 e3, .int .i64 e4, .int .i64 e5, .int .i64 p1, .int .i64 p2, .int .i64 p3, .int .i64 p4, .int .i64 p5] 50 (0, 0)), (W.heap.size + 1, .cells #[.slice none 0 0, .slice none 0 0, .string ⟨#[]⟩] 25 (0, 0)), (W.heap.size, .cells #[.slice ta TN tc, .slice sa SN sc, .slice na NN nc, .int .i32 be, .int .u8 fo, .int .u8 ba] 41 (0, 0))] (chR (.slice none 0 0) (.slice none 0 0) (goD TS NX be 0 (ST.take 0)) ++ [⟨.slice ua M uc, 28, 3, M, TS.flatMap Lc.cells⟩]) W _ from (HK.out.fresh 28 3).fresh 2 1)
     clear hTS hTl h9 hM hlt
     go_wp2_with fail
     go_loopw [9, 10, 11, 12, 13] (fun v9 v10 v11 v12 _ wr => ∃ n : Nat, n ≤ SN ∧ n ≤ 40 ∧ v12 = .int .i64 n ∧ v9 = .int .i64 (goT be (ST.take n)) ∧ Kp [(V.heap.size, .cells #[.string a, .int .i64 b, .string c, .int .i64 o, .int .i64 e1, .int .i64 e2, .int .i64 e3, .int .i64 e4, .int .i64 e5, .int .i64 p1, .int .i64 p2, .int .i64 p3, .int .i64 p4, .int .i64 p5] 50 (0, 0)), (W.heap.size + 1, .cells #[.slice none 0 0, .slice none 0 0, .string ⟨#[]⟩] 25 (0, 0)), (W.heap.size, .cells #[.slice ta TN tc, .slice sa SN sc, .slice na NN nc, .int .i32 be, .int .u8 fo, .int .u8 ba] 41 (0, 0))] (chR v10 v11 (goD TS NX be 0 (ST.take n)) ++ [⟨.slice ua M uc, 28, 3, M, TS.flatMap Lc.cells⟩]) W wr) (fun _ _ _ v12 _ _ => 40 - (intOf v12).toNat)
     case atStart => exact ⟨0, by omega, by omega, rfl, rfl, T1.out⟩
     case round =>
      obtain ⟨n, hn1, hn2, rfl, rfl, hK⟩ := hrel
      have HK2 := Lib.hid hK
      clear hK T1 HK q0 z0 q3
      have q1 : wr.cell? ⟨W.heap.size, 1, none⟩ = some (.slice sa SN sc) := cells_at (HK2.out.at 2 rfl) 1
      have z0 := HK2.out.lt 2 rfl
      go_upto_region 14 with fail
      go_cut [62] (fun v62 wx => v62 = .bool (decide (n < SN ∧ n < 40)) ∧ Kp [(V.heap.size, .cells #[.string a, .int .i64 b, .string c, .int .i64 o, .int .i64 e1, .int .i64 e2, .int .i64 e3, .int .i64 e4, .int .i64 e5, .int .i64 p1, .int .i64 p2, .int .i64 p3, .int .i64 p4, .int .i64 p5] 50 (0, 0)), (W.heap.size + 1, .cells #[.slice none 0 0, .slice none 0 0, .string ⟨#[]⟩] 25 (0, 0)), (W.heap.size, .cells #[.slice ta TN tc, .slice sa SN sc, .slice na NN nc, .int .i32 be, .int .u8 fo, .int .u8 ba] 41 (0, 0))] (chR u10 u11 (goD TS NX be 0 (ST.take n)) ++ [⟨.slice ua M uc, 28, 3, M, TS.flatMap Lc.cells⟩]) W wx)
      case first =>
       by_cases h1 : n < SN
       · have j1 : (n : Int) < (SN : Int) := by omega
         by_cases h2 : n < 40
         · have j2 : (n : Int) < 40 := by omega
           have HQ := Lib.hid (decide_eq_true (And.intro h1 h2))
           clear h1 h2
           go_wp2_with fail
           go_meet
           exact ⟨by rw [HQ.out], HK2.out⟩
         · have j2 : ¬ (n : Int) < 40 := by omega
           have HQ := Lib.hid (decide_eq_false (fun q : n < SN ∧ n < 40 => h2 q.2))
           clear h1 h2
           go_wp2_with fail
           go_meet
           exact ⟨by rw [HQ.out], HK2.out⟩
       · have j1 : ¬ (n : Int) < (SN : Int) := by omega
         have HQ := Lib.hid (decide_eq_false (fun q : n < SN ∧ n < 40 => h1 q.1))
         clear h1
         go_wp2_with fail
         go_meet
         exact ⟨by rw [HQ.out], HK2.out⟩
      case rest =>
       obtain ⟨rfl, hk⟩ := hcut
       clear HK2 q1 z0
       have HK := Lib.hid hk
       clear hk
       have q1 : wc.cell? ⟨W.heap.size, 1, none⟩ = some (.slice sa SN sc) := cells_at (HK.out.at 2 rfl) 1
       have q2 : wc.cell? ⟨W.heap.size, 2, none⟩ = some (.slice na NN nc) := cells_at (HK.out.at 2 rfl) 2
       have z0 := HK.out.lt 2 rfl
       by_cases hlt : n < SN ∧ n < 40
       · rw [decide_eq_true hlt]
         obtain ⟨l1, l2⟩ := hlt
         obtain ⟨bs', os', cs', e0, _, _, hbs, hcell⟩ := HSa.out (by omega)
         simp only [Value.slice.injEq] at e0
         obtain ⟨rfl, -, -⟩ := e0
         obtain ⟨x, hx⟩ : ∃ x, ST[n]? = some x := ⟨_, List.getElem?_eq_getElem (by rw [HSN.out]; exact l1)⟩
         obtain ⟨x0, x1⟩ := HIS.out x (List.mem_of_getElem? hx)
         have a0 := (HK.out.below.cell (p := ⟨bs', os' + n, none⟩) hbs).trans (hcell n x hx)
         have hbw : bs' < wc.heap.size := Nat.lt_of_lt_of_le hbs HK.out.below.size
         have hTb := goT_bd (ST.take n) be (fun x hx => HIS.out x (List.mem_of_mem_take hx))
         have hll : (ST.take n).length = n := by rw [List.length_take, HSN.out]; omega
         rw [hll] at hTb
         have hDl := goD_len TS NX (ST.take n) be 0
         rw [hll] at hDl
         obtain ⟨kk, hkk⟩ : ∃ k, nxK NX n = k := ⟨_, rfl⟩
         have hnext := goD_snoc TS NX x (ST.take n) be 0
         have hnextT := goT_snoc x (ST.take n) be
         rw [hll, Nat.zero_add, hkk, HTl.out] at hnext
         rw [show ST.take n ++ [x] = ST.take (n + 1) by rw [List.take_add_one, hx]; rfl] at hnext hnextT
         obtain ⟨T, hT⟩ : ∃ T, goT be (ST.take n) = T := ⟨_, rfl⟩
         obtain ⟨gg, hgg⟩ : ∃ g, goD TS NX be 0 (ST.take n) = g := ⟨_, rfl⟩
         rw [hT] at hTb hnext hnextT
         rw [hT]
         rw [hgg] at hDl hnext HK
         have hTb2 : -3000000000 ≤ T ∧ T ≤ 200000000000 := by omega
         obtain ⟨hT3, hT4⟩ := hTb2
         have w2 : IntKind.i64.wrap (1 + x) = 1 + x := IntWalk.i64_in _ (by omega)
         have w3 : IntKind.i64.wrap (T + (1 + x)) = T + (1 + x) := IntWalk.i64_in _ (by omega)
         have j1 : (n : Int) < (SN : Int) := by omega
         have HN0 := Lib.hid hnext
         have HNT := Lib.hid hnextT
         have HKk := Lib.hid hkk
         have hgl : gg.length ≤ 40 := by omega
         clear hcell hx hTb hll hDl hnext hnextT hT hgg hkk
         go_upto_if 79 with fail
         go_cut [13] (fun v13 wx => v13 = .int .i64 (kk : Int) ∧ Kp [(V.heap.size, .cells #[.string a, .int .i64 b, .string c, .int .i64 o, .int .i64 e1, .int .i64 e2, .int .i64 e3, .int .i64 e4, .int .i64 e5, .int .i64 p1, .int .i64 p2, .int .i64 p3, .int .i64 p4, .int .i64 p5] 50 (0, 0)), (W.heap.size + 1, .cells #[.slice none 0 0, .slice none 0 0, .string ⟨#[]⟩] 25 (0, 0)), (W.heap.size, .cells #[.slice ta TN tc, .slice (some ⟨bs', os', none⟩) SN sc, .slice na NN nc, .int .i32 be, .int .u8 fo, .int .u8 ba] 41 (0, 0))] (chR u10 u11 gg ++ [⟨.slice ua M uc, 28, 3, M, TS.flatMap Lc.cells⟩]) W wx)
         case first =>
          by_cases hnn : n < NN
          · obtain ⟨bn, on, cn, e0, _, _, hbn, hcell⟩ := HNa.out (by omega)
            simp only [Value.slice.injEq] at e0
            obtain ⟨rfl, -, -⟩ := e0
            obtain ⟨y, hy⟩ : ∃ y, NX[n]? = some y := ⟨_, List.getElem?_eq_getElem (by rw [HNN.out]; exact hnn)⟩
            obtain ⟨y0, y1⟩ := HIN.out y (List.mem_of_getElem? hy)
            have b0 := (HK.out.below.cell (p := ⟨bn, on + n, none⟩) hbn).trans (hcell n y hy)
            have hbw2 : bn < wc.heap.size := Nat.lt_of_lt_of_le hbn HK.out.below.size
            have hkv : y = (kk : Int) := by
             have := HKk.out
             unfold nxK at this
             rw [List.getD_eq_getElem?_getD, hy, Option.getD_some] at this
             omega
            have j3 : (n : Int) < (NN : Int) := by omega
            have HV := Lib.hid hkv
            clear hcell hy hkv hnn
            go_wp2_with fail
            go_meet
            exact ⟨by rw [HV.out], HK.out⟩
          · have hkv : n = kk := by
              have := HKk.out
              unfold nxK at this
              rw [List.getD_eq_getElem?_getD, List.getElem?_eq_none (by rw [HNN.out]; omega), Option.getD_none] at this
              omega
            have j3 : ¬ (n : Int) < (NN : Int) := by omega
            have HV := Lib.hid hkv
            clear hkv hnn
            go_wp2_with fail
            go_meet
            exact ⟨by rw [HV.out], HK.out⟩
         case rest =>
          obtain ⟨rfl, hk⟩ := hcut
          clear HK q1 q2 z0 a0 hbw
          obtain ⟨g, rfl, -, -, -, hg⟩ := own_some (show wc.ownsRow W.heap.size 28 3 (.slice ua M uc) M (TS.flatMap Lc.cells) from hk.row 2 rfl) (show 0 < M by omega)
          have KX := Lib.hid (show Kp _ [⟨u10, 2, 1, gg.length, gg.map (fun x => Value.int .i64 x.1)⟩, ⟨u11, 28, 3, gg.length, (gg.map Prod.snd).flatMap Lc.cells⟩, ⟨.slice (some ⟨g, 0, none⟩) M uc, 28, 3, M, TS.flatMap Lc.cells⟩] W wc from hk)
          obtain ⟨r, hr⟩ : ∃ r, kk % M = r := ⟨_, rfl⟩
          have hrM : r < M := by rw [← hr]; exact Nat.mod_lt _ (by omega)
          have hr1 : (kk : Int) % (M : Int) = (r : Int) := by rw [← hr]; simp
          have hr2 : (kk : Int).tmod (M : Int) = (r : Int) := by rw [Int.tmod_eq_emod_of_nonneg (by omega)]; exact hr1
          obtain ⟨⟨mo, md, ma⟩, hy⟩ : ∃ y, TS[r]? = some y := ⟨_, List.getElem?_eq_getElem (by rw [HTl.out]; exact hrM)⟩
          have hgd : TS.getD r Lc.zero = ⟨mo, md, ma⟩ := by rw [List.getD_eq_getElem?_getD, hy, Option.getD_some]
          have hnext := HN0.out
          rw [hr, hgd] at hnext
          have HX := Lib.hid hnext
          have HY := Lib.hid hy
          have hrI : (r : Int) < (M : Int) := by omega
          have hM0 : ¬ (M : Int) = 0 := by omega
          have hM0n : ¬ M = 0 := by omega
          have hM0b : ((M : Int) == 0) = false := by simp; omega
          obtain ⟨d0, d1, d2⟩ := lc_cell (KX.out.row 2 rfl) hy
          dsimp only at d0 d1 d2
          have hgw := ((KX.out.row 2 rfl).lt g rfl).2
          clear hk hr hrM hy hgd hnext
          go_upto_region 20 with fail
          refine wp_region_kps W _ [⟨.slice (some ⟨g, 0, none⟩) M uc, 28, 3, M, TS.flatMap Lc.cells⟩] [⟨3, 89, ⟨u10, 2, 1, gg.length, gg.map (fun x => Value.int .i64 x.1)⟩, gg.length + 1, gg.map (fun x => Value.int .i64 x.1) ++ [.int .i64 (T + (1 + x))]⟩, ⟨13, 99, ⟨u11, 28, 3, gg.length, (gg.map Prod.snd).flatMap Lc.cells⟩, gg.length + 1, (gg.map Prod.snd).flatMap Lc.cells ++ [.int .i64 mo, .bool md, .string ma]⟩] [(10, 89), (11, 99)] (by kernel_rfl) (kkS [(86, .eq u10), (87, .eq (.int .i64 (T + (1 + x)))), (88, .blk 1 #[.int .i64 (T + (1 + x))] 2), (90, .eq u11), (91, .eq (.slice (some ⟨g, 0, none⟩) M uc)), (92, .eq (.int .i64 (kk : Int))), (93, .eq (.slice (some ⟨g, 0, none⟩) M uc)), (94, .eq (.int .i64 (M : Int))), (95, .eq (.int .i64 (r : Int))), (96, .eq (.pointer (some ⟨g, r * 3, none⟩))), (97, .eq (.agg #[.int .i64 mo, .bool md, .string ma])), (98, .blk 1 #[.int .i64 mo, .bool md, .string ma] 28), (10, .cp), (11, .cp)]) (by kernel_rfl) ?hat (of_decide_eq_true (by kernel_rfl)) (by kernel_rfl) (kkS_mono _) KX.out ?steps ?hend
          case hat =>
           intro j hj
           simp only [List.mem_cons, List.not_mem_nil, or_false] at hj
           rcases hj with rfl | rfl
           · exact ⟨_, rfl, rfl⟩
           · exact ⟨_, rfl, rfl⟩
          case steps =>
           refine stepsK_n 86 rfl (by kernel_rfl) ?_ ?_
           · intro TT D w lq R hk hF K hK0
             have hK := Lib.hid hK0
             have q : TT[10]?.getD undef = u10 := hF.later 14 _ 10 rfl rfl (by kernel_rfl)
             have hk := Lib.hid hk
             clear hK0 hF
             go_simp
             exact hK.out _ _ _ hk.out (fun _ hp => hp) rfl
           refine stepsK_n 87 rfl (by kernel_rfl) ?_ ?_
           · intro TT D w lq R hk hF K hK0
             have hK := Lib.hid hK0
             have q : TT[9]?.getD undef = .int .i64 (T + (1 + x)) := hF.old 9 (by kernel_rfl)
             have hk := Lib.hid hk
             clear hK0 hF
             go_simp
             exact hK.out _ _ _ hk.out (fun _ hp => hp) rfl
           refine stepsK_n 88 rfl (by kernel_rfl) ?_ ?_
           · intro TT D w lq R hk hF K hK0
             have hK := Lib.hid hK0
             have q : TT[87]?.getD undef = .int .i64 (T + (1 + x)) := hF.on 1 (by kernel_rfl) (by kernel_rfl) rfl rfl
             have hk := Lib.hid hk
             clear hK0 hF
             go_simp
             exact hK.out _ _ _ (hk.out.alloc _) (fun _ hp => List.mem_cons_of_mem _ hp) ⟨_, rfl, List.mem_cons_self ..⟩
           refine stepsK_j _ rfl ?_ ?_
           · intro TT D w lq R hk hF K hK0
             have hK := Lib.hid hK0
             have q1 : TT[86]?.getD undef = u10 := hF.on 0 (by kernel_rfl) (by kernel_rfl) rfl rfl
             obtain ⟨bb, q2, hbm⟩ := (show KK.S (.blk 1 #[.int .i64 (T + (1 + x))] 2) lq (TT[88]?.getD undef) none from hF.on 2 (by kernel_rfl) (by kernel_rfl) rfl rfl)
             exact job_append rfl (.tmp 86) (.tmp 88) 90 rfl hk j0 (.int .i64 0) 8 Tryz.underlying90 hj hy0 hy1 hy2 rfl (by decide) (eval_tmp q1) hbm 1 1 (eval_tmp q2) rfl (by simp [Value.oneCell']) (by omega) (by omega) (by omega) (fun v' w' hk' => hK.out v' w' hk')
           refine stepsK_n 90 rfl (by kernel_rfl) ?_ ?_
           · intro TT D w lq R hk hF K hK0
             have hK := Lib.hid hK0
             have q : TT[11]?.getD undef = u11 := hF.later 15 _ 11 rfl rfl (by kernel_rfl)
             have hk := Lib.hid hk
             clear hK0 hF
             go_simp
             exact hK.out _ _ _ hk.out (fun _ hp => hp) rfl
           refine stepsK_n 91 rfl (by kernel_rfl) ?_ ?_
           · intro TT D w lq R hk hF K hK0
             have hK := Lib.hid hK0
             have q : TT[7]?.getD undef = (.slice (some ⟨g, 0, none⟩) M uc) := hF.old 7 (by kernel_rfl)
             have hk := Lib.hid hk
             clear hK0 hF
             go_simp
             exact hK.out _ _ _ hk.out (fun _ hp => hp) rfl
           refine stepsK_n 92 rfl (by kernel_rfl) ?_ ?_
           · intro TT D w lq R hk hF K hK0
             have hK := Lib.hid hK0
             have q : TT[13]?.getD undef = .int .i64 (kk : Int) := hF.old 13 (by kernel_rfl)
             have hk := Lib.hid hk
             clear hK0 hF
             go_simp
             exact hK.out _ _ _ hk.out (fun _ hp => hp) rfl
           refine stepsK_n 93 rfl (by kernel_rfl) ?_ ?_
           · intro TT D w lq R hk hF K hK0
             have hK := Lib.hid hK0
             have q : TT[7]?.getD undef = (.slice (some ⟨g, 0, none⟩) M uc) := hF.old 7 (by kernel_rfl)
             have hk := Lib.hid hk
             clear hK0 hF
             go_simp
             exact hK.out _ _ _ hk.out (fun _ hp => hp) rfl
           refine stepsK_n 94 rfl (by kernel_rfl) ?_ ?_
           · intro TT D w lq R hk hF K hK0
             have hK := Lib.hid hK0
             have q : TT[93]?.getD undef = (.slice (some ⟨g, 0, none⟩) M uc) := hF.on 7 (by kernel_rfl) (by kernel_rfl) rfl rfl
             have hk := Lib.hid hk
             clear hK0 hF
             go_simp
             exact hK.out _ _ _ hk.out (fun _ hp => hp) rfl
           refine stepsK_n 95 rfl (by kernel_rfl) ?_ ?_
           · intro TT D w lq R hk hF K hK0
             have hK := Lib.hid hK0
             have q : TT[92]?.getD undef = .int .i64 (kk : Int) := hF.on 6 (by kernel_rfl) (by kernel_rfl) rfl rfl
             have q2 : TT[94]?.getD undef = .int .i64 (M : Int) := hF.on 8 (by kernel_rfl) (by kernel_rfl) rfl rfl
             have hk := Lib.hid hk
             clear hK0 hF
             go_simp
             exact hK.out _ _ _ hk.out (fun _ hp => hp) rfl
           refine stepsK_n 96 rfl (by kernel_rfl) ?_ ?_
           · intro TT D w lq R hk hF K hK0
             have hK := Lib.hid hK0
             have q : TT[91]?.getD undef = (.slice (some ⟨g, 0, none⟩) M uc) := hF.on 5 (by kernel_rfl) (by kernel_rfl) rfl rfl
             have q2 : TT[95]?.getD undef = .int .i64 (r : Int) := hF.on 9 (by kernel_rfl) (by kernel_rfl) rfl rfl
             have hk := Lib.hid hk
             clear hK0 hF
             go_simp
             exact hK.out _ _ _ hk.out (fun _ hp => hp) rfl
           refine stepsK_n 97 rfl (by kernel_rfl) ?_ ?_
           · intro TT D w lq R hk hF K hK0
             have hK := Lib.hid hK0
             have q : TT[96]?.getD undef = .pointer (some ⟨g, r * 3, none⟩) := hF.on 10 (by kernel_rfl) (by kernel_rfl) rfl rfl
             obtain ⟨d0, d1, d2⟩ := lc_cell (show w.ownsRow W.heap.size 28 3 (.slice (some ⟨g, 0, none⟩) M uc) M (TS.flatMap Lc.cells) from hk.own _ (List.mem_append_right _ (List.mem_cons_self ..))) HY.out
             dsimp only at d0 d1 d2
             have hk := Lib.hid hk
             clear hK0 hF
             go_simp
             exact hK.out _ _ _ hk.out (fun _ hp => hp) rfl
           refine stepsK_n 98 rfl (by kernel_rfl) ?_ ?_
           · intro TT D w lq R hk hF K hK0
             have hK := Lib.hid hK0
             have q : TT[97]?.getD undef = .agg #[.int .i64 mo, .bool md, .string ma] := hF.on 11 (by kernel_rfl) (by kernel_rfl) rfl rfl
             have hk := Lib.hid hk
             clear hK0 hF
             go_simp
             exact hK.out _ _ _ (hk.out.alloc _) (fun _ hp => List.mem_cons_of_mem _ hp) ⟨_, rfl, List.mem_cons_self ..⟩
           refine stepsK_j _ rfl ?_ ?_
           · intro TT D w lq R hk hF K hK0
             have hK := Lib.hid hK0
             have q1 : TT[90]?.getD undef = u11 := hF.on 4 (by kernel_rfl) (by kernel_rfl) rfl rfl
             obtain ⟨bb, q2, hbm⟩ := (show KK.S (.blk 1 #[.int .i64 mo, .bool md, .string ma] 28) lq (TT[98]?.getD undef) none from hF.on 12 (by kernel_rfl) (by kernel_rfl) rfl rfl)
             exact job_append rfl (.tmp 90) (.tmp 98) 22 rfl hk i0 (.agg #[.int .i64 0, .bool false, .string ⟨#[]⟩]) 32 Tryz.underlying22 hi hz0 hz1 hz2 rfl (by decide) (eval_tmp q1) hbm 1 1 (eval_tmp q2) rfl (by simp [Value.oneCell']) (by omega) (by omega) (by omega) (fun v' w' hk' => hK.out v' w' hk')
           refine stepsK_n 10 rfl (by kernel_rfl) ?_ ?_
           · intro TT D w lq R hk hF K hK0
             have hK := Lib.hid hK0
             clear hK0
             go_simp
             exact hK.out _ _ _ hk (fun _ hp => hp) rfl
           refine stepsK_n 11 rfl (by kernel_rfl) ?_ ?_
           · intro TT D w lq R hk hF K hK0
             have hK := Lib.hid hK0
             clear hK0
             go_simp
             exact hK.out _ _ _ hk (fun _ hp => hp) rfl
           exact stepsK_nil
          case hend =>
           intro TT w lq hsz hk hsub hold hS
           obtain ⟨G, hG⟩ : ∃ G : Nat → Value, ∀ t, TT[t]?.getD undef = G t := ⟨_, fun _ => rfl⟩
           have c10 : G 10 = G 89 := by
            have := (show some (TT[89]?.getD undef) = some (TT[10]?.getD undef) from hS 14 _ 10 rfl rfl (by kernel_rfl))
            rw [hG, hG] at this
            exact (Option.some.inj this).symm
           have c11 : G 11 = G 99 := by
            have := (show some (TT[99]?.getD undef) = some (TT[11]?.getD undef) from hS 15 _ 11 rfl rfl (by kernel_rfl))
            rw [hG, hG] at this
            exact (Option.some.inj this).symm
           have hk2 := hk
           simp only [List.map_cons, List.map_nil, Job.row, hG, List.cons_append, List.nil_append] at hk2
           have KN := Lib.hid (hk2.sub KX.out hsub)
           have e' := tmps_mix [86, 87, 88, 89, 90, 91, 92, 93, 94, 95, 96, 97, 98, 99, 10, 11] (by kernel_rfl) hsz hold
           simp only [List.foldl_cons, List.foldl_nil, hG, List.setIfInBounds_toArray, List.set_cons_zero, List.set_cons_succ] at e'
           rw [e', c10, c11]
           clear e' c10 c11 hold hS hG hsz hk hk2 hsub
           go_wp2_with fail
           go_roundw
           case rel =>
            refine ⟨n + 1, by omega, by omega, by go_num, by rw [HNT.out], ?_⟩
            rw [HX.out, chR_snoc]
            exact KN.out
           case measure => simp [intOf]; omega
       · rw [decide_eq_false hlt]
         have h40 : ST.take n = ST.take 40 := by
          rcases Nat.lt_or_ge n 40 with h | h
          · rw [List.take_of_length_le (by rw [HSN.out]; omega), List.take_of_length_le (by rw [HSN.out]; omega)]
          · rw [show n = 40 by omega]
         have hTb := goT_bd (ST.take 40) be (fun x hx => HIS.out x (List.mem_of_mem_take hx))
         have hll : (ST.take 40).length ≤ 40 := by rw [List.length_take]; omega
         have hDl := goD_len TS NX (ST.take 40) be 0
         have hchg : SN ≠ 0 → DD.changes = goD TS NX be 0 (ST.take 40) ++ [(goT be (ST.take 40) + 1, (atL DD.pos (goT be (ST.take 40) + 1)).1)] := by
          intro h0
          rw [← HD.out]
          unfold D40.changes D40.end_ D40.tys
          rw [if_neg (fun e => h0 (by rw [← HSN.out]; exact List.length_eq_zero_iff.2 e)), HTS.out]
         rw [h40] at HK ⊢
         obtain ⟨T, hT⟩ : ∃ T, goT be (ST.take 40) = T := ⟨_, rfl⟩
         obtain ⟨gg, hgg⟩ : ∃ g, goD TS NX be 0 (ST.take 40) = g := ⟨_, rfl⟩
         rw [hT] at hTb hchg ⊢
         rw [hgg] at hDl HK hchg
         have hTb2 : -3000000000 ≤ T ∧ T ≤ 200000000000 := by omega
         obtain ⟨hT3, hT4⟩ := hTb2
         have w1 : IntKind.i64.wrap (T + 1) = T + 1 := IntWalk.i64_in _ (by omega)
         have hgl : gg.length ≤ 40 := by omega
         have hat0 := HA0.out (T + 1) (by omega) (by omega)
         have CA1 := CA.out (T + 1)
         rw [hat0] at CA1
         rw [HPos.out] at hchg
         obtain ⟨⟨mo, md, ma⟩, hl⟩ : ∃ l, (atL ⟨a, b, c, o, ⟨e1, e2, e3, e4, e5⟩, ⟨p1, p2, p3, p4, p5⟩⟩ (T + 1)).1 = l := ⟨_, rfl⟩
         rw [hl] at CA1 hchg
         unfold Lc.val at CA1
         dsimp only at CA1
         have HCh := Lib.hid hchg
         have CA2 := Lib.hid CA1
         obtain ⟨g, rfl, -, -, -, hg⟩ := own_some (show wc.ownsRow W.heap.size 28 3 (.slice ua M uc) M (TS.flatMap Lc.cells) from HK.out.row 2 rfl) (show 0 < M by omega)
         have HG := Lib.hid hg
         obtain ⟨x0, x1, x2, x3, x4, x5, x6, x7, x8, x9, x10, x11, x12, x13⟩ := row14 (HK.out.at 0 rfl)
         clear h40 hTb hll hDl hT hgg hat0 hl hchg CA1 hlt hg
         go_wp2_with fail
         refine (CA2.out _).mono ?_
         rintro _ V5 ⟨rfl, hb⟩
         have K5 := Lib.hid (HK.out.keep hb)
         have K6 := Lib.hid (show Kp _ [⟨u10, 2, 1, gg.length, gg.map (fun x => Value.int .i64 x.1)⟩, ⟨u11, 28, 3, gg.length, (gg.map Prod.snd).flatMap Lc.cells⟩, ⟨.slice (some ⟨g, 0, none⟩) M uc, 28, 3, M, TS.flatMap Lc.cells⟩] W _ from K5.out.alloc (.cells #[.int .i64 mo, .bool md, .string ma] 28))
         clear hb x0 x1 x2 x3 x4 x5 x6 x7 x8 x9 x10 x11 x12 x13
         go_upto_region 24 with fail
         refine wp_region_kps W _ [⟨.slice (some ⟨g, 0, none⟩) M uc, 28, 3, M, TS.flatMap Lc.cells⟩] [⟨4, 114, ⟨u10, 2, 1, gg.length, gg.map (fun x => Value.int .i64 x.1)⟩, gg.length + 1, gg.map (fun x => Value.int .i64 x.1) ++ [.int .i64 (T + 1)]⟩, ⟨8, 118, ⟨u11, 28, 3, gg.length, (gg.map Prod.snd).flatMap Lc.cells⟩, gg.length + 1, (gg.map Prod.snd).flatMap Lc.cells ++ [.int .i64 mo, .bool md, .string ma]⟩] [(10, 114), (11, 118)] (by kernel_rfl) (kkS [(110, .eq u10), (111, .eq (.int .i64 T)), (112, .eq (.int .i64 (T + 1))), (113, .blk 1 #[.int .i64 (T + 1)] 2), (115, .eq u11), (116, .eq (.agg #[.int .i64 mo, .bool md, .string ma])), (117, .blk 1 #[.int .i64 mo, .bool md, .string ma] 28), (10, .cp), (11, .cp)]) (by kernel_rfl) ?hat (of_decide_eq_true (by kernel_rfl)) (by kernel_rfl) (kkS_mono _) K6.out ?steps ?hend
         case hat =>
          intro j hj
          simp only [List.mem_cons, List.not_mem_nil, or_false] at hj
          rcases hj with rfl | rfl
          · exact ⟨_, rfl, rfl⟩
          · exact ⟨_, rfl, rfl⟩
         case steps =>
          refine stepsK_n 110 rfl (by kernel_rfl) ?_ ?_
          · intro TT D w lq R hk hF K hK0
            have hK := Lib.hid hK0
            have q : TT[10]?.getD undef = u10 := hF.later 9 _ 10 rfl rfl (by kernel_rfl)
            have hk := Lib.hid hk
            clear hK0 hF
            go_simp
            exact hK.out _ _ _ hk.out (fun _ hp => hp) rfl
          refine stepsK_n 111 rfl (by kernel_rfl) ?_ ?_
          · intro TT D w lq R hk hF K hK0
            have hK := Lib.hid hK0
            have q : TT[9]?.getD undef = .int .i64 T := hF.old 9 (by kernel_rfl)
            have hk := Lib.hid hk
            clear hK0 hF
            go_simp
            exact hK.out _ _ _ hk.out (fun _ hp => hp) rfl
          refine stepsK_n 112 rfl (by kernel_rfl) ?_ ?_
          · intro TT D w lq R hk hF K hK0
            have hK := Lib.hid hK0
            have q : TT[111]?.getD undef = .int .i64 T := hF.on 1 (by kernel_rfl) (by kernel_rfl) rfl rfl
            have hk := Lib.hid hk
            clear hK0 hF
            go_simp
            exact hK.out _ _ _ hk.out (fun _ hp => hp) rfl
          refine stepsK_n 113 rfl (by kernel_rfl) ?_ ?_
          · intro TT D w lq R hk hF K hK0
            have hK := Lib.hid hK0
            have q : TT[112]?.getD undef = .int .i64 (T + 1) := hF.on 2 (by kernel_rfl) (by kernel_rfl) rfl rfl
            have hk := Lib.hid hk
            clear hK0 hF
            go_simp
            exact hK.out _ _ _ (hk.out.alloc _) (fun _ hp => List.mem_cons_of_mem _ hp) ⟨_, rfl, List.mem_cons_self ..⟩
          refine stepsK_j _ rfl ?_ ?_
          · intro TT D w lq R hk hF K hK0
            have hK := Lib.hid hK0
            have q1 : TT[110]?.getD undef = u10 := hF.on 0 (by kernel_rfl) (by kernel_rfl) rfl rfl
            obtain ⟨bb, q2, hbm⟩ := (show KK.S (.blk 1 #[.int .i64 (T + 1)] 2) lq (TT[113]?.getD undef) none from hF.on 3 (by kernel_rfl) (by kernel_rfl) rfl rfl)
            exact job_append rfl (.tmp 110) (.tmp 113) 90 rfl hk j0 (.int .i64 0) 8 Tryz.underlying90 hj hy0 hy1 hy2 rfl (by decide) (eval_tmp q1) hbm 1 1 (eval_tmp q2) rfl (by simp [Value.oneCell']) (by omega) (by omega) (by omega) (fun v' w' hk' => hK.out v' w' hk')
          refine stepsK_n 115 rfl (by kernel_rfl) ?_ ?_
          · intro TT D w lq R hk hF K hK0
            have hK := Lib.hid hK0
            have q : TT[11]?.getD undef = u11 := hF.later 10 _ 11 rfl rfl (by kernel_rfl)
            have hk := Lib.hid hk
            clear hK0 hF
            go_simp
            exact hK.out _ _ _ hk.out (fun _ hp => hp) rfl
          refine stepsK_n 116 rfl (by kernel_rfl) ?_ ?_
          · intro TT D w lq R hk hF K hK0
            have hK := Lib.hid hK0
            have q : TT[14]?.getD undef = .pointer (some ⟨V5.heap.size, 0, none⟩) := hF.old 14 (by kernel_rfl)
            have c : _ := (row3 (hk.atM (hF.sub _ (List.mem_cons_self ..)))).1
            obtain ⟨d0, d1, d2⟩ := c
            have hk := Lib.hid hk
            clear hK0 hF
            go_simp
            exact hK.out _ _ _ hk.out (fun _ hp => hp) rfl
          refine stepsK_n 117 rfl (by kernel_rfl) ?_ ?_
          · intro TT D w lq R hk hF K hK0
            have hK := Lib.hid hK0
            have q : TT[116]?.getD undef = .agg #[.int .i64 mo, .bool md, .string ma] := hF.on 6 (by kernel_rfl) (by kernel_rfl) rfl rfl
            have hk := Lib.hid hk
            clear hK0 hF
            go_simp
            exact hK.out _ _ _ (hk.out.alloc _) (fun _ hp => List.mem_cons_of_mem _ hp) ⟨_, rfl, List.mem_cons_self ..⟩
          refine stepsK_j _ rfl ?_ ?_
          · intro TT D w lq R hk hF K hK0
            have hK := Lib.hid hK0
            have q1 : TT[115]?.getD undef = u11 := hF.on 5 (by kernel_rfl) (by kernel_rfl) rfl rfl
            obtain ⟨bb, q2, hbm⟩ := (show KK.S (.blk 1 #[.int .i64 mo, .bool md, .string ma] 28) lq (TT[117]?.getD undef) none from hF.on 7 (by kernel_rfl) (by kernel_rfl) rfl rfl)
            exact job_append rfl (.tmp 115) (.tmp 117) 22 rfl hk i0 (.agg #[.int .i64 0, .bool false, .string ⟨#[]⟩]) 32 Tryz.underlying22 hi hz0 hz1 hz2 rfl (by decide) (eval_tmp q1) hbm 1 1 (eval_tmp q2) rfl (by simp [Value.oneCell']) (by omega) (by omega) (by omega) (fun v' w' hk' => hK.out v' w' hk')
          refine stepsK_n 10 rfl (by kernel_rfl) ?_ ?_
          · intro TT D w lq R hk hF K hK0
            have hK := Lib.hid hK0
            clear hK0
            go_simp
            exact hK.out _ _ _ hk (fun _ hp => hp) rfl
          refine stepsK_n 11 rfl (by kernel_rfl) ?_ ?_
          · intro TT D w lq R hk hF K hK0
            have hK := Lib.hid hK0
            clear hK0
            go_simp
            exact hK.out _ _ _ hk (fun _ hp => hp) rfl
          exact stepsK_nil
         case hend =>
          intro TT w lq hsz hk hsub hold hS
          obtain ⟨G, hG⟩ : ∃ G : Nat → Value, ∀ t, TT[t]?.getD undef = G t := ⟨_, fun _ => rfl⟩
          have c10 : G 10 = G 114 := by
           have := (show some (TT[114]?.getD undef) = some (TT[10]?.getD undef) from hS 9 _ 10 rfl rfl (by kernel_rfl))
           rw [hG, hG] at this
           exact (Option.some.inj this).symm
          have c11 : G 11 = G 118 := by
           have := (show some (TT[118]?.getD undef) = some (TT[11]?.getD undef) from hS 10 _ 11 rfl rfl (by kernel_rfl))
           rw [hG, hG] at this
           exact (Option.some.inj this).symm
          have hk2 := hk
          simp only [List.map_cons, List.map_nil, Job.row, hG, List.cons_append, List.nil_append] at hk2
          have KN := Lib.hid (hk2.sub K6.out hsub)
          have e' := tmps_mix [110, 111, 112, 113, 114, 115, 116, 117, 118, 10, 11] (by kernel_rfl) hsz hold
          simp only [List.foldl_cons, List.foldl_nil, hG, List.setIfInBounds_toArray, List.set_cons_zero, List.set_cons_succ] at e'
          rw [e', c10, c11]
          clear e' c10 c11 hold hS hG hsz hk hk2 hsub
          have K7 := Lib.hid (show Kp _ (chR (G 114) (G 118) (gg ++ [(T + 1, ⟨mo, md, ma⟩)]) ++ [⟨.slice (some ⟨g, 0, none⟩) M uc, 28, 3, M, TS.flatMap Lc.cells⟩]) W w from by rw [chR_snoc]; exact KN.out)
          obtain ⟨va, vc, hva⟩ : ∃ a c, G 114 = .slice a (gg.length + 1) c := own_slice (KN.out.row 0 rfl)
          obtain ⟨wa, wc', hwa⟩ : ∃ a c, G 118 = .slice a (gg.length + 1) c := own_slice (KN.out.row 1 rfl)
          rw [hva, hwa] at K7 ⊢
          obtain ⟨gch, hgch⟩ : ∃ l, gg ++ [(T + 1, (⟨mo, md, ma⟩ : Lc))] = l := ⟨_, rfl⟩
          rw [hgch] at K7 HCh
          have hgch' := Lib.hid hgch
          clear KN hva hwa hgch
          have hF := changes_fit DD HIn.out
          have hMade := ofT_made40 DD HIn.out
          rw [HPos.out, HS.out] at hMade
          have hfoot : DD.made.foot = S := by rw [← HS.out, ← HPos.out]; rfl
          have q1 : w.cell? ⟨W.heap.size, 1, none⟩ = some (.slice sa SN sc) := cells_at (K7.out.at 3 rfl) 1
          have zW := K7.out.lt 3 rfl
          by_cases hS0 : SN = 0
          · have hST : ST = [] := List.length_eq_zero_iff.1 (by rw [HSN.out]; exact hS0)
            have hfst : DD.first = (atL DD.pos 0).1 := by rw [← HD.out]; unfold D40.first; rw [if_pos hST]
            have hcg : DD.changes = [] := by rw [← HD.out]; unfold D40.changes; rw [if_pos hST]
            have hat0 := HA0.out 0 (by omega) (by omega)
            have CA1 := CA.out 0
            rw [hat0] at CA1
            rw [HPos.out] at hfst
            obtain ⟨⟨fo', fd, fa⟩, hl⟩ : ∃ l, (atL ⟨a, b, c, o, ⟨e1, e2, e3, e4, e5⟩, ⟨p1, p2, p3, p4, p5⟩⟩ 0).1 = l := ⟨_, rfl⟩
            have hfit : Lc.Fit ⟨fo', fd, fa⟩ := by
             obtain ⟨_, b0, b1, _, b3⟩ := atL_good (goodP_iff (posix_good DD.foot DD.base)) (t := 0) (by omega) (by omega)
             rw [show posixN DD.foot DD.base = DD.pos from rfl, HPos.out, hl] at b0 b1 b3
             exact ⟨wf_64 (by dsimp only at b0 b1 ⊢; omega), by unfold maxLen; dsimp only at b3 ⊢; omega⟩
            rw [hl] at CA1 hfst
            unfold Lc.val at CA1
            dsimp only at CA1
            rw [hfst, hcg] at hMade
            have CA3 := Lib.hid CA1
            have HMd := Lib.hid hMade
            have HFt := Lib.hid hfit
            have HFoot := Lib.hid hfoot
            have hS0i : (SN : Int) = 0 := by omega
            obtain ⟨g', cap, cur, hv, hk1, c1, c2, c3, c4⟩ := (K7.out.less (List.sublist_append_right _ [_])).known_of (by omega)
            simp only [Value.slice.injEq, Option.some.injEq, Addr.mk.injEq, and_true, true_and] at hv
            obtain ⟨rfl, rfl⟩ := hv
            obtain ⟨u0, hu0⟩ : ∃ u, cur[0]? = some u := ⟨_, Array.getElem?_eq_getElem (by omega)⟩
            obtain ⟨u1, hu1⟩ : ∃ u, cur[1]? = some u := ⟨_, Array.getElem?_eq_getElem (by omega)⟩
            obtain ⟨u2, hu2⟩ : ∃ u, cur[2]? = some u := ⟨_, Array.getElem?_eq_getElem (by omega)⟩
            have hc3 : 3 ≤ cur.size := by omega
            have KG := Lib.hid hk1
            obtain ⟨x0, x1, x2, x3, x4, x5, x6, x7, x8, x9, x10, x11, x12, x13⟩ := row14 (KG.out.at 2 rfl)
            have hMi : (0 : Int) < (M : Int) := by omega
            have HC3 := Lib.hid hc3
            have HU := Lib.hid (And.intro hu0 (And.intro hu1 hu2))
            clear hk1 c1 c2 c3 c4 hST hfst hcg hat0 hl hfit CA1 hMade hfoot K7 hS0 hu0 hu1 hu2 hc3 hF
            go_wp2_with fail
            refine (CA3.out _).mono ?_
            rintro _ V6 ⟨rfl, hb⟩
            have KH := Lib.hid (KG.out.keep hb)
            clear hb x0 x1 x2 x3 x4 x5 x6 x7 x8 x9 x10 x11 x12 x13 q1 zW
            have n0 := (cells_at (KH.out.at 0 rfl) 0).trans HU.out.1
            have n1 := (cells_at (KH.out.at 0 rfl) 1).trans HU.out.2.1
            have n2 := (cells_at (KH.out.at 0 rfl) 2).trans HU.out.2.2
            have r0 := free_at (KH.out.at 0 rfl) 0
            have r1 := free_at (KH.out.at 0 rfl) 1
            have r2 := free_at (KH.out.at 0 rfl) 2
            have zg := KH.out.lt 0 rfl
            have KS := Lib.hid (((KH.out.set 0 rfl 0 (.int .i64 fo') rfl).set 0 rfl 1 (.bool fd) rfl).set 0 rfl 2 (.string fa) rfl)
            have CO := Lib.hid (fun w h1 h2 => rof_any ⟨fo', fd, fa⟩ [] [] (.slice none 0 0) (.slice none 0 0) S w h1 h2 HFt.out (fun _ h => by cases h) (fun _ h => by cases h) (by decide))
            rw [show ofT ⟨fo', fd, fa⟩ [] [] S = (DD.made, 0) from HMd.out] at CO
            unfold Lc.val at CO
            dsimp only at CO
            rw [HFoot.out] at CO
            go_wp2_with fail
            refine (CO.out _ (IsV.nil _ _) (LcV.nil _)).mono ?_
            rintro _ V7 ⟨tv, rv, rfl, hk, hf⟩
            have hk2 := (KS.out.less (List.nil_sublist _)).adopt hk
            obtain ⟨ta', tc', rfl⟩ : ∃ a c, tv = .slice a DD.made.types.length c := own_slice (hk2.row 1 rfl)
            obtain ⟨ra', rc', rfl⟩ : ∃ a c, rv = .slice a DD.made.trans.length c := own_slice (hk2.row 0 rfl)
            have KT := Lib.hid hk2
            have HFf := Lib.hid hf
            obtain ⟨tn, htn⟩ : ∃ n, DD.made.types.length = n := ⟨_, rfl⟩
            obtain ⟨rn, hrn⟩ : ∃ n, DD.made.trans.length = n := ⟨_, rfl⟩
            rw [htn, hrn] at KT ⊢
            clear hk hk2 hf
            obtain ⟨⟨y0, y1, y2⟩, t0, t1, t2⟩ := row3 (KT.out.at 3 rfl)
            have z1 := KT.out.lt 3 rfl
            go_wp2_with fail
            have KU := Lib.hid ((((KT.out.set 3 rfl 0 (.slice ta' tn tc') rfl).set 3 rfl 1 (.slice ra' rn rc') rfl).set 3 rfl 2 (.string (bs S)) rfl).alloc (.cells #[.slice ta' tn tc', .slice ra' rn rc', .string (bs S)] 25))
            obtain ⟨⟨v0, v1, v2⟩, _, _, _⟩ := row3 (KU.out.at 4 rfl)
            refine bodyPost_ret (v := .tuple #[.agg #[.slice ta' tn tc', .slice ra' rn rc', .string (bs S)], .bool true]) (by simp [results, Tryz.results19, go_sem, v0, v1, v2]) rfl ?_
            refine ⟨.slice ta' tn tc', .slice ra' rn rc', by rw [HFoot.out], ?_, HFf.out⟩
            exact (KU.out.pick (List.nil_sublist _)).less (List.sublist_append_left _ _)
          · have hch := HCh.out hS0
            have hST : ST ≠ [] := fun e => hS0 (by rw [← HSN.out, e]; rfl)
            have hfst : DD.first = ⟨lo, ld, la⟩ := by rw [← HD.out, ← HL0.out]; unfold D40.first; rw [if_neg hST]
            rw [hch] at hF
            rw [hfst, hch] at hMade
            have hy0 : TS[0]? = some ⟨lo, ld, la⟩ := by rw [← HTS.out, HL0.out]; rfl
            obtain ⟨d0, d1, d2⟩ := lc_cell (K7.out.row 2 rfl) hy0
            simp only [Nat.zero_mul, Nat.zero_add] at d0 d1 d2
            have hgw := ((K7.out.row 2 rfl).lt g rfl).2
            obtain ⟨c1, c2, _⟩ := chR_at (K7.out.less (List.sublist_append_left _ _))
            have hln : gch.length ≤ 41 := hF.2.2
            have hz1 : (gch.map Prod.fst).length = gg.length + 1 := by rw [← hgch'.out, List.length_map, List.length_append]; rfl
            have HMd := Lib.hid hMade
            have HFoot := Lib.hid hfoot
            have HC1 := Lib.hid c1
            have HC2 := Lib.hid c2
            have hS0i : ¬ (SN : Int) = 0 := by omega
            have hMi : (0 : Int) < (M : Int) := by omega
            have CO := Lib.hid (fun w h1 h2 => rof_any ⟨lo, ld, la⟩ (gch.map Prod.fst) (gch.map Prod.snd) (.slice va (gg.length + 1) vc) (.slice wa (gg.length + 1) wc') S w h1 h2 (by rw [← HL0.out]; exact locN_fit 0) (fun l hl => by
             have := hF.1 l hl
             exact ⟨wf_64 (by omega), by unfold maxLen; omega⟩) (fun t ht => by
             have := hF.2.1 t ht
             exact wf_64 (by omega)) (by rw [List.length_map]; omega))
            rw [HMd.out] at CO
            unfold Lc.val at CO
            dsimp only at CO
            rw [HFoot.out] at CO
            clear hch hST hfst hF hMade hy0 c1 c2 hln hz1 hfoot hS0
            go_wp2_with fail
            refine (CO.out _ HC1.out HC2.out).mono ?_
            rintro _ V7 ⟨tv, rv, rfl, hk, hf⟩
            have hk2 := (K7.out.less (List.nil_sublist _)).adopt hk
            obtain ⟨ta', tc', rfl⟩ : ∃ a c, tv = .slice a DD.made.types.length c := own_slice (hk2.row 1 rfl)
            obtain ⟨ra', rc', rfl⟩ : ∃ a c, rv = .slice a DD.made.trans.length c := own_slice (hk2.row 0 rfl)
            have KT := Lib.hid hk2
            have HFf := Lib.hid hf
            obtain ⟨tn, htn⟩ : ∃ n, DD.made.types.length = n := ⟨_, rfl⟩
            obtain ⟨rn, hrn⟩ : ∃ n, DD.made.trans.length = n := ⟨_, rfl⟩
            rw [htn, hrn] at KT ⊢
            clear hk hk2 hf
            obtain ⟨⟨y0, y1, y2⟩, t0, t1, t2⟩ := row3 (KT.out.at 2 rfl)
            have z1 := KT.out.lt 2 rfl
            go_wp2_with fail
            have KU := Lib.hid ((((KT.out.set 2 rfl 0 (.slice ta' tn tc') rfl).set 2 rfl 1 (.slice ra' rn rc') rfl).set 2 rfl 2 (.string (bs S)) rfl).alloc (.cells #[.slice ta' tn tc', .slice ra' rn rc', .string (bs S)] 25))
            obtain ⟨⟨v0, v1, v2⟩, _, _, _⟩ := row3 (KU.out.at 3 rfl)
            refine bodyPost_ret (v := .tuple #[.agg #[.slice ta' tn tc', .slice ra' rn rc', .string (bs S)], .bool true]) (by simp [results, Tryz.results19, go_sem, v0, v1, v2]) rfl ?_
            refine ⟨.slice ta' tn tc', .slice ra' rn rc', by rw [HFoot.out], ?_, HFf.out⟩
            exact (KU.out.pick (List.nil_sublist _)).less (List.sublist_append_left _ _)
end Go.Proofs.YtkpmmabdpeobaaaGreatDoor.Px
