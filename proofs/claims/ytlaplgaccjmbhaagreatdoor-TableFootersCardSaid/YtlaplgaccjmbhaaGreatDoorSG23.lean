/- The function table.Text: the text of any table. The function analemmaref40.Text: the document's text of any table. The function analemmalaw40.few: which tables are looked at. -/
import Derived.Test.YtlaplgaccjmbhaaGreatDoorSG22
import Derived.Test.YtlaplgaccjmbhaaGreatDoorSG17
import Derived.Test.YtlaplgaccjmbhaaGreatDoorSG20
import Derived.Test.YtlaplgaccjmbhaaGreatDoorSG8
import Derived.Deep.RegionHeldLaw
import Derived.Deep.QuietTactic
import Derived.BigQuiet
import Derived.Test.YtlaplgaccjmbhaaGreatDoorSG16
import Derived.Test.YtlaplgaccjmbhaaGreatDoorSG19
namespace Go.Proofs.YtlaplgaccjmbhaaGreatDoor.Px
open Go.RowKit
open Civ Tb
theorem itoa_call (n : Int) (h0 : -9223372036854775808 ≤ n) (h1 : n ≤ 9223372036854775807) (w : World) (hE : EnvAt w) :
    Calls Tryz.prog 64 #[.int .i64 n] w fun e w' => e = .returned (.string (bs (Lib.itoa n))) ∧ Below w.heap.size w w' := by
  refine (Tryz.strconv_Itoa n h0 h1 w hE.pow).mono ?_
  rintro e w' ⟨rfl, k, os, rfl⟩
  exact ⟨rfl, Lib.below_grow _ _ (Nat.le_refl _) _ _⟩
theorem format_call (n : Int) (h0 : -9223372036854775808 ≤ n) (h1 : n ≤ 9223372036854775807) (w : World) (hE : EnvAt w) :
    Calls Tryz.prog 65 #[.int .i64 n, .int .i64 10] w fun e w' => e = .returned (.string (bs (Lib.itoa n))) ∧ Below w.heap.size w w' := by
  refine (Tryz.strconv_FormatInt_10 n h0 h1 w hE.pow).mono ?_
  rintro e w' ⟨rfl, k, os, rfl⟩
  exact ⟨rfl, Lib.below_grow _ _ (Nat.le_refl _) _ _⟩
theorem Kp.keepTo {L : List (Nat × Obj)} {w X Z : World} {b : Nat} (h : Kp L [] w X) (hB : Below b X Z) (hw : w.heap.size ≤ b) (hL : ∀ p ∈ L, p.1 < b) : Kp L [] w Z :=
  Kp.of ⟨h.below.trans (hB.mono hw), fun k c o hk => (hB.block c (hL (c, o) (List.mem_of_getElem? hk))).trans (h.at k hk), h.known.own, h.known.desc⟩
theorem BuB.drew {B b : Nat} {l : List UInt8} {w : World} (h : BuB B b l w) : BuB B b l w.drew := h.below (Civ.below_drewN (Below.refl _ w) 1)
theorem BuB.alloc {B b : Nat} {l : List UInt8} {w : World} (h : BuB B b l w) (o : Obj) : BuB B b l (w.alloc o) := h.below ((Below.refl _ w).alloc (Nat.le_refl _) o)
theorem bs_back (a : ByteArray) : bs a.data.toList = a := by
  apply ByteArray.ext
  show a.data.toList.toArray = a.data
  simp
theorem type_cells (i : Nat) (o : Int) (d : Bool) (a : ByteArray) {si so : ByteArray} (h1 : bs (Lib.itoa i) = si) (h2 : bs (Off.printO o) = so) :
    ((typeW i ⟨o, d, a⟩).map (fun x => Value.string (bs x))).toArray = #[.string ⟨#[116, 121, 112, 101]⟩, .string si, .string so, .string (bs (dstW d)), .string a] := by
  subst h1 h2
  simp only [typeW, List.map_cons, List.map_nil, bs_back]
  rfl
theorem trans_cells (t k : Int) {st sk : ByteArray} (h1 : bs (Lib.itoa t) = st) (h2 : bs (Lib.itoa k) = sk) :
    ((transW ⟨t, k⟩).map (fun x => Value.string (bs x))).toArray = #[.string ⟨#[97, 116]⟩, .string st, .string sk] := by
  subst h1 h2
  rfl
theorem foot_cells (f : List UInt8) : ((footW f).map (fun x => Value.string (bs x))).toArray = #[.string ⟨#[102, 111, 111, 116, 101, 114]⟩, .string (bs f)] := rfl
theorem foot_short {x : Tab} (h : checkE x = 0) : x.foot.length ≤ 100 := by
  have h1 := foot_zero (check_zero h).2.2
  unfold finG at h1
  by_cases h2 : 100 < x.foot.length
  · rw [if_pos h2] at h1; cases h1
  · omega
set_option maxHeartbeats 8000000 in
set_option maxRecDepth 100000 in
theorem ttext_any (x : Tab) (tv rv : Value) (f : ByteArray) (W : World) (h : TabV W tv rv f x) (hE : EnvAt W) (hmax : x.trans.length ≤ 1000000) :
    Calls Tryz.prog 30 #[.agg #[tv, rv, .string f]] W fun e w' => e = .returned (.tuple #[.string (bs (textP x).1), .int .i64 (textP x).2]) ∧ Below W.heap.size W w' := by
  have CC := Lib.hid (fun w h hE => tcheck_any x tv rv f w h hE)
  obtain ⟨ta, tc, htv, t1, t2⟩ := h.types.slice
  obtain ⟨ra, rc, hrv, r1, r2⟩ := h.trans.slice
  have hL1 := fun h0 => h.types.all h0
  have hR1 := fun h0 => h.trans.all h0
  obtain ⟨M, hM⟩ : ∃ n, x.types.length = n := ⟨_, rfl⟩
  obtain ⟨N, hN⟩ : ∃ n, x.trans.length = n := ⟨_, rfl⟩
  rw [hM] at htv t1 hL1
  rw [hN] at hrv r1 hR1 hmax
  subst htv hrv
  unfold maxLen at t2 r2
  have K0 := Lib.hid ((Kp.start W).alloc (.cells #[.slice ta M tc, .slice ra N rc, .string f] 25))
  have HT := Lib.hid h
  have HE := Lib.hid hE
  by_cases h1 : checkE x = 0
  case neg =>
    unfold textP
    rw [if_neg h1]
    obtain ⟨E, hE2⟩ : ∃ E, checkE x = E := ⟨_, rfl⟩
    rw [hE2] at CC h1 ⊢
    dsimp only
    clear hE2 h hE hL1 hR1 hM hN
    go_enter Tryz.func30, Tryz.ntmps30
    go_wp2_with fail
    refine (CC.out _ (HT.out.keep K0.out.below) (HE.out.keep K0.out.below)).mono ?_
    rintro _ V ⟨rfl, hb⟩
    have K1 := Lib.hid (K0.out.keep hb)
    clear hb
    go_wp2_with fail
    go_ret2
    exact ⟨rfl, K1.out.below⟩
  have hf := h.foot
  have hfs := foot_short h1
  have h7 := right_types h1
  have hlc := typesE_zero (check_zero h1).1
  have htr := HT.out.trs
  unfold textP
  rw [if_pos h1]
  rw [h1] at CC
  have HL1 := Lib.hid hL1
  have HR1 := Lib.hid hR1
  have HM := Lib.hid hM
  have HN := Lib.hid hN
  have H7 := Lib.hid (fun l hl => (h7 l hl))
  have hM1 : M ≤ 254 := by rw [← hM]; exact hlc.2.1
  have HTy := Lib.hid (fun i (hi : i ≤ M) => Nat.le_trans (types_len_le (x.types.take i) 0 (fun l hl => by have := (h7 l (List.mem_of_mem_take hl)).2; omega) (by rw [List.length_take]; omega)) (show 1050 * (x.types.take i).length ≤ 1000000 by rw [List.length_take]; omega))
  have HTr := Lib.hid (fun i (hi : i ≤ N) => Nat.le_trans (transT_len (x.trans.take i) (fun t ht => htr t (List.mem_of_mem_take ht))) (show 50 * (x.trans.take i).length ≤ 50000000 by rw [List.length_take]; omega))
  have HF := Lib.hid hf
  have HFs := Lib.hid hfs
  have CP := Lib.hid (fun o (h0 : -54000 ≤ o) (h1 : o ≤ 54000) w hE => Off.print_any o (by omega) (by omega) w hE)
  have CI := Lib.hid (fun n h0 h1 w hE => itoa_call n h0 h1 w hE)
  have CF := Lib.hid (fun n h0 h1 w hE => format_call n h0 h1 w hE)
  have CL := Lib.hid (fun b k l ws w h hk hn hlen => line_any b k l ws w h hk hn hlen)
  clear h hE hL1 hR1 hM hN hf hfs h7 hlc htr h1
  go_enter Tryz.func30, Tryz.ntmps30
  go_wp2_with fail
  refine (CC.out _ (HT.out.keep K0.out.below) (HE.out.keep K0.out.below)).mono ?_
  rintro _ V ⟨rfl, hb⟩
  have K1 := Lib.hid (K0.out.keep hb)
  have B0 := Lib.hid (show BuB V.heap.size V.heap.size (typesT 0 (x.types.take 0)) (V.alloc (.cells #[.pointer none, .slice none 0 0] 118)) from Lib.fresh_isBuilder 118 5 V)
  have K2 := Lib.hid (K1.out.keep ((Below.refl _ V).alloc (Nat.le_refl _) (.cells #[.pointer none, .slice none 0 0] 118)))
  have zV := K1.out.lt 0 rfl
  have zW : W.heap.size ≤ V.heap.size := K1.out.below.size
  obtain ⟨⟨x0, x1, x2⟩, _, _, _⟩ := row3 (K1.out.at 0 rfl)
  clear hb
  go_wp2_with fail
  go_loopw [6, 7, 8, 9, 10, 21] (fun _ _ _ _ _ v21 wr => ∃ i : Nat, i ≤ M ∧ v21 = .int .i64 i ∧ Kp [(W.heap.size, .cells #[.slice ta M tc, .slice ra N rc, .string f] 25 (0, 0))] [] W wr ∧ BuB V.heap.size V.heap.size (typesT 0 (x.types.take i)) wr) (fun _ _ _ _ _ v21 _ => M - (intOf v21).toNat)
  case atStart => exact ⟨0, by omega, rfl, K2.out, B0.out⟩
  case round =>
    obtain ⟨i, hi, rfl, hK, hB⟩ := hrel
    have HK := Lib.hid hK
    have HB := Lib.hid hB
    clear hK hB x0 x1 x2 B0 K2 K0 K1
    by_cases hlt : i < M
    · obtain ⟨b, o, c, e1, _, _, hb, hcell⟩ := HL1.out (by omega)
      simp only [Value.slice.injEq] at e1
      obtain ⟨rfl, -, -⟩ := e1
      obtain ⟨⟨lo, ld, la⟩, hl⟩ : ∃ l, x.types[i]? = some l := ⟨_, List.getElem?_eq_getElem (by rw [HM.out]; exact hlt)⟩
      obtain ⟨hg, hg7⟩ := H7.out _ (List.mem_of_getElem? hl)
      have hoff : -54000 ≤ lo ∧ lo ≤ 54000 := by
        unfold lcE at hg
        by_cases h3 : lo < -54000 ∨ 54000 < lo
        · rw [if_pos h3] at hg; cases hg
        · omega
      obtain ⟨q0, q1⟩ := hoff
      have hnext : typesT 0 (x.types.take (i + 1)) = typesT 0 (x.types.take i) ++ lineT (typeW i ⟨lo, ld, la⟩) := by
        rw [List.take_add_one, hl]
        show typesT 0 (x.types.take i ++ [_]) = _
        rw [typesT_snoc, List.length_take, HM.out, Nat.min_eq_left (by omega), Nat.zero_add]
      have hlen := HTy.out i (by omega)
      have hlen2 := type_len i ⟨lo, ld, la⟩ (by omega)
      dsimp only at hlen2 hg7
      obtain ⟨c0, c1, c2⟩ := hcell i _ hl
      dsimp only at c0 c1 c2
      have k0 := (HK.out.below.cell (p := ⟨b, o + i * 3, none⟩) hb).trans c0
      have k1 := (HK.out.below.cell (p := ⟨b, o + i * 3 + 1, none⟩) hb).trans c1
      have k2 := (HK.out.below.cell (p := ⟨b, o + i * 3 + 2, none⟩) hb).trans c2
      have hbw : b < wr.heap.size := Nat.lt_of_lt_of_le hb HK.out.below.size
      obtain ⟨si, hsi⟩ : ∃ s, bs (Lib.itoa i) = s := ⟨_, rfl⟩
      obtain ⟨so, hso⟩ : ∃ s, bs (Off.printO lo) = s := ⟨_, rfl⟩
      have hws := type_cells i lo ld la hsi hso
      obtain ⟨ws, hwse⟩ : ∃ w, typeW i ⟨lo, ld, la⟩ = w := ⟨_, rfl⟩
      have hwn : ws.length = 5 := by rw [← hwse]; rfl
      have CP1 := CP.out lo q0 q1
      have CI1 := CI.out i (by omega) (by omega)
      rw [hso] at CP1
      rw [hsi] at CI1
      rw [hwse] at hnext hlen2 hws
      obtain ⟨T0, hT0⟩ : ∃ t, typesT 0 (x.types.take i) = t := ⟨_, rfl⟩
      rw [hT0] at hnext hlen HB
      have CL1 := fun k w h hk => CL.out V.heap.size k T0 ws w h hk (by omega) (by omega)
      rw [hws, hwn] at CL1
      have HX := Lib.hid hnext
      have CP2 := Lib.hid CP1
      have CI2 := Lib.hid CI1
      have CL2 := Lib.hid CL1
      have hlt' : (i : Int) < (M : Int) := by omega
      obtain ⟨⟨x0, x1, x2⟩, _, _, _⟩ := row3 (HK.out.at 0 rfl)
      have z0 := HK.out.lt 0 rfl
      have hzb := HB.out.lt
      have KA := Lib.hid (HK.out.alloc (.cells #[.int .i64 lo, .bool ld, .string la] 28))
      have BA := Lib.hid (HB.out.alloc (.cells #[.int .i64 lo, .bool ld, .string la] 28))
      clear hcell c0 c1 c2 hl hg hnext hlen hlen2 hsi hso hws hwse hwn CP1 CI1 CL1 hT0
      have hdw : dstW ld = if ld = true then [100, 115, 116] else [115, 116, 100] := rfl
      cases ld
      all_goals
        go_wp2_with fail
        refine (CP2.out _ (HE.out.keep KA.out.below)).mono ?_
        rintro _ V2 ⟨rfl, hb2⟩
        have KB := Lib.hid (KA.out.keep hb2)
        have BB := Lib.hid (BA.out.below hb2)
        clear hb2 k0 k1 k2 x0 x1 x2 z0
        obtain ⟨⟨y0, y1, y2⟩, _, _, _⟩ := row3 (KB.out.at 0 rfl)
        have z0 := KB.out.lt 0 rfl
        go_upto_region 14 with fail
        go_region_law (first
          | (go_simp; go_at_call 64; refine (CI2.out _ (HE.out.keep KB.out.drew.below)).mono ?_; rintro _ V3 ⟨rfl, hb3⟩; have KC := Lib.hid (KB.out.drew.keep hb3); have BC := Lib.hid (BB.out.drew.below hb3); obtain ⟨⟨y0, y1, y2⟩, _, _, _⟩ := row3 (KC.out.at 0 rfl); have z1 := KC.out.lt 0 rfl; clear hb3)
          | (go_simp; go_at_call 63; refine (CL2.out V3.heap.size _ (BC.out.alloc _) ((KC.out.alloc _).at 0 rfl)).mono ?_; rintro _ V4 ⟨rfl, hb4, hk4⟩; have KD := Lib.hid ((KC.out.drop.alloc _).drop.keepTo hk4 zW (by intro p hp; rw [List.mem_singleton.1 hp]; exact zV)); have BD := Lib.hid hb4; clear hb4 hk4))
        all_goals
          go_wp2_with fail
          go_roundw
          case rel => exact ⟨i + 1, by omega, by go_num, KD.out, by rw [HX.out]; exact BD.out⟩
          case measure => simp [intOf]; omega
    · obtain rfl : i = M := by omega
      have hb := HB.out
      have hlen0 := HTy.out i (Nat.le_refl _)
      rw [List.take_of_length_le (by rw [HM.out]; omega)] at hb hlen0
      obtain ⟨T0, hT0⟩ : ∃ t, typesT 0 x.types = t := ⟨_, rfl⟩
      rw [hT0] at hb hlen0
      have HT0 := Lib.hid hT0
      have B1 := Lib.hid (show BuB V.heap.size V.heap.size (T0 ++ transT (x.trans.take 0)) wr by
        rw [show transT (x.trans.take 0) = [] from rfl, List.append_nil]
        exact hb)
      have KX := Lib.hid HK.out
      have hlen0' : T0.length ≤ 1000000 := Nat.le_trans hlen0 (by have := HTy.out i (Nat.le_refl _); omega)
      clear hb hT0 hlen0 HB
      obtain ⟨⟨x0, x1, x2⟩, _, _, _⟩ := row3 (HK.out.at 0 rfl)
      have z0 := HK.out.lt 0 rfl
      go_wp2_with fail
      go_loopw [12, 49] (fun _ v49 wr => ∃ j : Nat, j ≤ N ∧ v49 = .int .i64 j ∧ Kp [(W.heap.size, .cells #[.slice ta i tc, .slice ra N rc, .string f] 25 (0, 0))] [] W wr ∧ BuB V.heap.size V.heap.size (T0 ++ transT (x.trans.take j)) wr) (fun _ v49 _ => N - (intOf v49).toNat)
      case atStart => exact ⟨0, by omega, rfl, KX.out, B1.out⟩
      case round =>
        obtain ⟨j, hj, rfl, hK, hB⟩ := hrel
        clear HK KX B1 x0 x1 x2 z0
        have HK := Lib.hid hK
        have HB := Lib.hid hB
        clear hK hB
        by_cases hlt2 : j < N
        · obtain ⟨b, o, c, e1, _, _, hb, hcell⟩ := HR1.out (by omega)
          simp only [Value.slice.injEq] at e1
          obtain ⟨rfl, -, -⟩ := e1
          obtain ⟨⟨at1, ty1⟩, hl⟩ : ∃ l, x.trans[j]? = some l := ⟨_, List.getElem?_eq_getElem (by rw [HN.out]; exact hlt2)⟩
          have hfit := HT.out.trs _ (List.mem_of_getElem? hl)
          obtain ⟨⟨q0, q1⟩, q2, q3⟩ := tr_i hfit
          dsimp only at q0 q1 q2 q3
          have hnext : transT (x.trans.take (j + 1)) = transT (x.trans.take j) ++ lineT (transW ⟨at1, ty1⟩) := by
            rw [List.take_add_one, hl]
            show transT (x.trans.take j ++ [_]) = _
            rw [transT_snoc]
          have hlen := HTr.out j (by omega)
          have hlen2 := trans_len ⟨at1, ty1⟩ hfit
          obtain ⟨c0, c1⟩ := hcell j _ hl
          dsimp only at c0 c1
          have k0 := (HK.out.below.cell (p := ⟨b, o + j * 2, none⟩) hb).trans c0
          have k1 := (HK.out.below.cell (p := ⟨b, o + j * 2 + 1, none⟩) hb).trans c1
          have hbw : b < wr.heap.size := Nat.lt_of_lt_of_le hb HK.out.below.size
          obtain ⟨st, hst⟩ : ∃ s, bs (Lib.itoa at1) = s := ⟨_, rfl⟩
          obtain ⟨sk, hsk⟩ : ∃ s, bs (Lib.itoa ty1) = s := ⟨_, rfl⟩
          have hws := trans_cells at1 ty1 hst hsk
          obtain ⟨ws, hwse⟩ : ∃ w, transW ⟨at1, ty1⟩ = w := ⟨_, rfl⟩
          have hwn : ws.length = 3 := by rw [← hwse]; rfl
          have CF1 := CF.out at1 q0 q1
          have CI1 := CI.out ty1 q2 q3
          rw [hst] at CF1
          rw [hsk] at CI1
          rw [hwse] at hnext hlen2 hws
          obtain ⟨T1, hT1⟩ : ∃ t, transT (x.trans.take j) = t := ⟨_, rfl⟩
          rw [hT1] at hnext hlen HB
          have CL1 := fun k w h hk => CL.out V.heap.size k (T0 ++ T1) ws w h hk (by omega) (by rw [List.length_append]; omega)
          rw [hws, hwn] at CL1
          have HX := Lib.hid hnext
          have CF2 := Lib.hid CF1
          have CI2 := Lib.hid CI1
          have CL2 := Lib.hid CL1
          have hlt' : (j : Int) < (N : Int) := by omega
          have KA := Lib.hid (HK.out.alloc (.cells #[.int .i64 at1, .int .i64 ty1] 59))
          have BA := Lib.hid (HB.out.alloc (.cells #[.int .i64 at1, .int .i64 ty1] 59))
          clear hcell c0 c1 hl hfit hnext hlen hlen2 hst hsk hws hwse hwn CF1 CI1 CL1 hT1
          go_upto_region 19 with fail
          go_region_law (first
            | (go_simp; go_at_call 65; refine (CF2.out _ (HE.out.keep KA.out.drew.below)).mono ?_; rintro _ V3 ⟨rfl, hb3⟩; have KF := Lib.hid (KA.out.drew.keep hb3); have BF := Lib.hid (BA.out.drew.below hb3); obtain ⟨y0, y1⟩ := row2 (KF.out.at 0 rfl); have z1 := KF.out.lt 0 rfl; clear hb3)
            | (go_simp; go_at_call 64; refine (CI2.out _ (HE.out.keep KA.out.drew.below)).mono ?_; rintro _ V3 ⟨rfl, hb3⟩; have KJ := Lib.hid (KA.out.drew.keep hb3); have BJ := Lib.hid (BA.out.drew.below hb3); obtain ⟨y0, y1⟩ := row2 (KJ.out.at 0 rfl); have z1 := KJ.out.lt 0 rfl; clear hb3)
            | (go_simp; go_at_call 65; refine (CF2.out _ (HE.out.keep KJ.out.below)).mono ?_; rintro _ V4 ⟨rfl, hb3⟩; have KC := Lib.hid (KJ.out.keep hb3); have BC := Lib.hid (BJ.out.below hb3); clear hb3)
            | (go_simp; go_at_call 64; refine (CI2.out _ (HE.out.keep KF.out.below)).mono ?_; rintro _ V4 ⟨rfl, hb3⟩; have KC := Lib.hid (KF.out.keep hb3); have BC := Lib.hid (BF.out.below hb3); clear hb3)
            | (go_simp; go_at_call 63; refine (CL2.out V4.heap.size _ (BC.out.alloc _) ((KC.out.alloc _).at 0 rfl)).mono ?_; rintro _ V5 ⟨rfl, hb4, hk4⟩; have KD := Lib.hid ((KC.out.drop.alloc _).drop.keepTo hk4 zW (by intro p hp; rw [List.mem_singleton.1 hp]; exact zV)); have BD := Lib.hid hb4; clear hb4 hk4))
          all_goals
            go_wp2_with fail
            go_roundw
            case rel => exact ⟨j + 1, by omega, by go_num, KD.out, by rw [HX.out, ← List.append_assoc]; exact BD.out⟩
            case measure => simp [intOf]; omega
        · obtain rfl : j = N := by omega
          have hb := HB.out
          have hlen := HTr.out j (Nat.le_refl _)
          rw [List.take_of_length_le (by rw [HN.out]; omega)] at hb hlen
          obtain ⟨T1, hT1⟩ : ∃ t, transT x.trans = t := ⟨_, rfl⟩
          rw [hT1] at hb hlen
          have hlen3 : T1.length ≤ 50000000 := Nat.le_trans hlen (by omega)
          have hfl : (lineT (footW x.foot)).length ≤ 200 := by
            rw [foot_line]
            have := HFs.out
            simp only [List.length_append, List.length_cons, List.length_nil]
            omega
          have CL1 := fun k w h hk => CL.out V.heap.size k (T0 ++ T1) (footW x.foot) w h hk (show 2 ≤ 1000 by omega) (by rw [List.length_append]; omega)
          rw [foot_cells, ← HF.out] at CL1
          have CL2 := Lib.hid CL1
          have hfin : T0 ++ T1 ++ lineT (footW x.foot) = Tb.textL x := by
            rw [← HT0.out, ← hT1]
            rfl
          have HFin := Lib.hid hfin
          have HB1 := Lib.hid hb
          obtain ⟨⟨x0, x1, x2⟩, _, _, _⟩ := row3 (HK.out.at 0 rfl)
          have z0 := HK.out.lt 0 rfl
          clear hb hlen hT1 CL1 hfin hfl hlen3
          go_wp2_with fail
          refine (CL2.out wr.heap.size _ (HB1.out.alloc _) ((HK.out.alloc _).at 0 rfl)).mono ?_
          rintro _ V5 ⟨rfl, hb4, hk4⟩
          have KD := Lib.hid ((HK.out.alloc _).drop.keepTo hk4 zW (by intro p hp; rw [List.mem_singleton.1 hp]; exact zV))
          have BD := Lib.hid hb4
          have CS := Lib.hid (Tryz.Builder_String_any V.heap.size V.heap.size (T0 ++ T1 ++ lineT (footW x.foot)) V5 hb4 (Nat.le_of_lt (BuB.lt hb4)))
          rw [HFin.out] at CS
          clear hb4 hk4 x0 x1 x2 z0
          go_wp2_with fail
          refine CS.out.mono ?_
          rintro _ V6 ⟨rfl, hk6⟩
          have KE := Lib.hid (KD.out.keepTo hk6 zW (by intro p hp; rw [List.mem_singleton.1 hp]; exact zV))
          clear hk6
          go_wp2_with fail
          go_ret2
          exact ⟨rfl, KE.out.below⟩
end Go.Proofs.YtlaplgaccjmbhaaGreatDoor.Px
namespace Go.Proofs.YtlaplgaccjmbhaaGreatDoor.Px
open Go.RowKit
open Civ Tb
theorem bs_add' (a b : List UInt8) : bs a ++ bs b = bs (a ++ b) := Off.bs_add a b
/-- the line of a type as the document adds it to what there is -/
theorem type_sum (T : List UInt8) (i : Nat) (o : Int) (d : Bool) (a : ByteArray) {t si so : ByteArray} (h0 : bs T = t) (h1 : bs (Lib.itoa i) = si) (h2 : bs (Off.printO o) = so) :
    ((((((t ++ ⟨#[116, 121, 112, 101, 32]⟩) ++ si) ++ ⟨#[32]⟩) ++ so) ++ (if d then ⟨#[32, 100, 115, 116, 32]⟩ else ⟨#[32, 115, 116, 100, 32]⟩)) ++ a) ++ ⟨#[10]⟩ = bs (T ++ lineT (typeW i ⟨o, d, a⟩)) := by
  subst h0 h1 h2
  rw [type_line]
  have e1 : (⟨#[116, 121, 112, 101, 32]⟩ : ByteArray) = bs [116, 121, 112, 101, 32] := rfl
  have e2 : (⟨#[32]⟩ : ByteArray) = bs [32] := rfl
  have e3 : (⟨#[10]⟩ : ByteArray) = bs [10] := rfl
  have e4 : (if d then (⟨#[32, 100, 115, 116, 32]⟩ : ByteArray) else ⟨#[32, 115, 116, 100, 32]⟩) = bs (if d then [32, 100, 115, 116, 32] else [32, 115, 116, 100, 32]) := by cases d <;> rfl
  have e5 : a = bs a.data.toList := (bs_back a).symm
  rw [e1, e2, e3, e4]
  conv => lhs; rw [e5]
  rw [bs_add', bs_add', bs_add', bs_add', bs_add', bs_add', bs_add']
  simp only [List.append_assoc]
theorem trans_sum (T : List UInt8) (a k : Int) {t st sk : ByteArray} (h0 : bs T = t) (h1 : bs (Lib.itoa a) = st) (h2 : bs (Lib.itoa k) = sk) :
    ((((t ++ ⟨#[97, 116, 32]⟩) ++ st) ++ ⟨#[32]⟩) ++ sk) ++ ⟨#[10]⟩ = bs (T ++ lineT (transW ⟨a, k⟩)) := by
  subst h0 h1 h2
  rw [trans_line]
  have e1 : (⟨#[97, 116, 32]⟩ : ByteArray) = bs [97, 116, 32] := rfl
  have e2 : (⟨#[32]⟩ : ByteArray) = bs [32] := rfl
  have e3 : (⟨#[10]⟩ : ByteArray) = bs [10] := rfl
  rw [e1, e2, e3, bs_add', bs_add', bs_add', bs_add', bs_add']
  simp only [List.append_assoc]
theorem foot_sum (T f : List UInt8) {t : ByteArray} (h0 : bs T = t) : ((t ++ ⟨#[102, 111, 111, 116, 101, 114, 32]⟩) ++ bs f) ++ ⟨#[10]⟩ = bs (T ++ lineT (footW f)) := by
  subst h0
  rw [foot_line]
  have e1 : (⟨#[102, 111, 111, 116, 101, 114, 32]⟩ : ByteArray) = bs [102, 111, 111, 116, 101, 114, 32] := rfl
  have e3 : (⟨#[10]⟩ : ByteArray) = bs [10] := rfl
  rw [e1, e3, bs_add', bs_add', bs_add']
  simp only [List.append_assoc]
set_option maxHeartbeats 8000000 in
set_option maxRecDepth 100000 in
theorem rttext_any (x : Tab) (tv rv : Value) (f : ByteArray) (W : World) (h : TabV W tv rv f x) (hmax : x.trans.length ≤ 1000000) :
    Calls Tryz.prog 31 #[.agg #[tv, rv, .string f]] W fun e w' => e = .returned (.tuple #[.string (bs (textP x).1), .int .i64 (textP x).2]) ∧ Below W.heap.size W w' := by
  have CC := Lib.hid (fun w h => rcheck_any x tv rv f w h)
  obtain ⟨ta, tc, htv, t1, t2⟩ := h.types.slice
  obtain ⟨ra, rc, hrv, r1, r2⟩ := h.trans.slice
  have hL1 := fun h0 => h.types.all h0
  have hR1 := fun h0 => h.trans.all h0
  obtain ⟨M, hM⟩ : ∃ n, x.types.length = n := ⟨_, rfl⟩
  obtain ⟨N, hN⟩ : ∃ n, x.trans.length = n := ⟨_, rfl⟩
  rw [hM] at htv t1 hL1
  rw [hN] at hrv r1 hR1 hmax
  subst htv hrv
  unfold maxLen at t2 r2
  have K0 := Lib.hid ((Kp.start W).alloc (.cells #[.slice ta M tc, .slice ra N rc, .string f] 25))
  have HT := Lib.hid h
  by_cases h1 : checkE x = 0
  case neg =>
    unfold textP
    rw [if_neg h1]
    obtain ⟨E, hE2⟩ : ∃ E, checkE x = E := ⟨_, rfl⟩
    rw [hE2] at CC h1 ⊢
    dsimp only
    clear hE2 h hL1 hR1 hM hN
    go_enter Tryz.func31, Tryz.ntmps31
    go_wp2_with fail
    refine (CC.out _ (HT.out.keep K0.out.below)).mono ?_
    rintro _ V ⟨rfl, hb⟩
    have K1 := Lib.hid (K0.out.keep hb)
    clear hb
    go_wp2_with fail
    go_ret2
    exact ⟨rfl, K1.out.below⟩
  have hf := h.foot
  have hfs := foot_short h1
  have h7 := right_types h1
  have hlc := typesE_zero (check_zero h1).1
  have htr := HT.out.trs
  unfold textP
  rw [if_pos h1]
  rw [h1] at CC
  have HL1 := Lib.hid hL1
  have HR1 := Lib.hid hR1
  have HM := Lib.hid hM
  have HN := Lib.hid hN
  have H7 := Lib.hid (fun l hl => (h7 l hl))
  have hM1 : M ≤ 254 := by rw [← hM]; exact hlc.2.1
  have HTy := Lib.hid (fun i (hi : i ≤ M) => Nat.le_trans (types_len_le (x.types.take i) 0 (fun l hl => by have := (h7 l (List.mem_of_mem_take hl)).2; omega) (by rw [List.length_take]; omega)) (show 1050 * (x.types.take i).length ≤ 1000000 by rw [List.length_take]; omega))
  have HTr := Lib.hid (fun i (hi : i ≤ N) => Nat.le_trans (transT_len (x.trans.take i) (fun t ht => htr t (List.mem_of_mem_take ht))) (show 50 * (x.trans.take i).length ≤ 50000000 by rw [List.length_take]; omega))
  have HRng := Lib.hid (transGo_ok _ _ _ _ (check_zero h1).2.1).rng
  have HTyr := Lib.hid (transGo_ok _ _ _ _ (check_zero h1).2.1).ty
  have HF := Lib.hid hf
  have HFs := Lib.hid hfs
  have CP := Lib.hid (fun o (h0 : -54000 ≤ o) (h1 : o ≤ 54000) w => Off.ref_print o (by omega) (by omega) w)
  have CN := Lib.hid (fun n h0 h1 w => number_any n h0 h1 w)
  clear h hL1 hR1 hM hN hf hfs h7 hlc htr h1
  go_enter Tryz.func31, Tryz.ntmps31
  go_wp2_with fail
  refine (CC.out _ (HT.out.keep K0.out.below)).mono ?_
  rintro _ V ⟨rfl, hb⟩
  have K1 := Lib.hid (K0.out.keep hb)
  obtain ⟨⟨x0, x1, x2⟩, _, _, _⟩ := row3 (K1.out.at 0 rfl)
  clear hb
  go_wp2_with fail
  go_loopw [5, 6, 7, 8, 9] (fun v5 v6 _ _ _ wr => ∃ i : Nat, i ≤ M ∧ v6 = .int .i64 i ∧ v5 = .string (bs (typesT 0 (x.types.take i))) ∧ Kp [(W.heap.size, .cells #[.slice ta M tc, .slice ra N rc, .string f] 25 (0, 0))] [] W wr) (fun _ v6 _ _ _ _ => M - (intOf v6).toNat)
  case atStart => exact ⟨0, by omega, rfl, rfl, K1.out⟩
  case round =>
    obtain ⟨i, hi, rfl, rfl, hK⟩ := hrel
    have HK := Lib.hid hK
    clear hK x0 x1 x2 K0 K1
    obtain ⟨⟨x0, x1, x2⟩, _, _, _⟩ := row3 (HK.out.at 0 rfl)
    have z0 := HK.out.lt 0 rfl
    by_cases hlt : i < M
    · obtain ⟨b, o, c, e1, _, _, hb, hcell⟩ := HL1.out (by omega)
      simp only [Value.slice.injEq] at e1
      obtain ⟨rfl, -, -⟩ := e1
      obtain ⟨⟨lo, ld, la⟩, hl⟩ : ∃ l, x.types[i]? = some l := ⟨_, List.getElem?_eq_getElem (by rw [HM.out]; exact hlt)⟩
      obtain ⟨hg, hg7⟩ := H7.out _ (List.mem_of_getElem? hl)
      have hoff : -54000 ≤ lo ∧ lo ≤ 54000 := by
        unfold lcE at hg
        by_cases h3 : lo < -54000 ∨ 54000 < lo
        · rw [if_pos h3] at hg; cases hg
        · omega
      obtain ⟨q0, q1⟩ := hoff
      have hnext : typesT 0 (x.types.take (i + 1)) = typesT 0 (x.types.take i) ++ lineT (typeW i ⟨lo, ld, la⟩) := by
        rw [List.take_add_one, hl]
        show typesT 0 (x.types.take i ++ [_]) = _
        rw [typesT_snoc, List.length_take, HM.out, Nat.min_eq_left (by omega), Nat.zero_add]
      have hlen := HTy.out i (by omega)
      dsimp only at hg7
      obtain ⟨c0, c1, c2⟩ := hcell i _ hl
      dsimp only at c0 c1 c2
      have k0 := (HK.out.below.cell (p := ⟨b, o + i * 3, none⟩) hb).trans c0
      have k1 := (HK.out.below.cell (p := ⟨b, o + i * 3 + 1, none⟩) hb).trans c1
      have k2 := (HK.out.below.cell (p := ⟨b, o + i * 3 + 2, none⟩) hb).trans c2
      have hbw : b < wr.heap.size := Nat.lt_of_lt_of_le hb HK.out.below.size
      obtain ⟨si, hsi⟩ : ∃ s, bs (Lib.itoa i) = s := ⟨_, rfl⟩
      obtain ⟨so, hso⟩ : ∃ s, bs (Off.printO lo) = s := ⟨_, rfl⟩
      obtain ⟨t, ht⟩ : ∃ s, bs (typesT 0 (x.types.take i)) = s := ⟨_, rfl⟩
      have s1 := itoa_size (i : Int) (by omega) (by omega)
      have s2 : (bs (Off.printO lo)).size ≤ 10 := by rw [bs_size]; exact printO_len lo
      have s3 : (bs (typesT 0 (x.types.take i))).size ≤ 1000000 := by rw [bs_size]; exact hlen
      have hsum := fun d => type_sum (typesT 0 (x.types.take i)) i lo d la ht hsi hso
      have CP1 := CP.out lo q0 q1
      have CN1 := CN.out i (by omega) (by omega)
      rw [hso] at CP1 s2
      rw [hsi] at CN1 s1
      rw [ht] at s3
      rw [ht]
      have HX := Lib.hid hnext
      have HS := Lib.hid hsum
      have CP2 := Lib.hid CP1
      have CN2 := Lib.hid CN1
      have hlt' : (i : Int) < (M : Int) := by omega
      have g1 : ¬ 9223372036854775807 < t.size + 5 := by omega
      have g2 : ¬ 9223372036854775807 < t.size + 5 + si.size := by omega
      have g3 : ¬ 9223372036854775807 < t.size + 5 + si.size + 1 := by omega
      have g4 : ¬ 9223372036854775807 < t.size + 5 + si.size + 1 + so.size := by omega
      have g5 : ¬ 9223372036854775807 < t.size + 5 + si.size + 1 + so.size + 5 := by omega
      have g6 : ¬ 9223372036854775807 < t.size + 5 + si.size + 1 + so.size + 5 + la.size := by omega
      have g7 : ¬ 9223372036854775807 < t.size + 5 + si.size + 1 + so.size + 5 + la.size + 1 := by omega
      clear hcell c0 c1 c2 hl hg hnext hlen hsi hso ht CP1 CN1 hsum s1 s2 s3
      cases ld
      all_goals
        go_wp2_with fail
        refine (CP2.out _).mono ?_
        rintro _ V2 ⟨rfl, rfl⟩
        go_upto_region 12 with fail
        go_quiet ((go_at_call 68; exact Calls.quiet_of_same ((CN2.out _).mono fun _ _ h => ⟨h.1, h.2.symm⟩)))
        go_wp2_with fail
        go_roundw
        case rel =>
          refine ⟨i + 1, by omega, by go_num, ?_, HK.out.call (Civ.below_drewN (Below.refl _ _) _) rfl rfl rfl rfl⟩
          rw [HX.out]
          first
            | exact congrArg Value.string (HS.out false)
            | exact congrArg Value.string (HS.out true)
        case measure => simp [intOf]; omega
    · obtain rfl : i = M := by omega
      have hlen0 := HTy.out i (Nat.le_refl _)
      rw [List.take_of_length_le (by rw [HM.out]; omega)] at hlen0 ⊢
      obtain ⟨T0, hT0⟩ : ∃ t, typesT 0 x.types = t := ⟨_, rfl⟩
      rw [hT0] at hlen0 ⊢
      have HT0 := Lib.hid hT0
      have hz : T0 = T0 ++ transT (x.trans.take 0) := by rw [show transT (x.trans.take 0) = [] from rfl, List.append_nil]
      have HZ := Lib.hid hz
      have KX := Lib.hid HK.out
      clear hT0 hz
      go_wp2_with fail
      go_loopw [5, 10] (fun v5 v10 wr => ∃ j : Nat, j ≤ N ∧ v10 = .int .i64 j ∧ v5 = .string (bs (T0 ++ transT (x.trans.take j))) ∧ Kp [(W.heap.size, .cells #[.slice ta i tc, .slice ra N rc, .string f] 25 (0, 0))] [] W wr) (fun _ v10 _ => N - (intOf v10).toNat)
      case atStart => exact ⟨0, by omega, rfl, by rw [← HZ.out], KX.out⟩
      case round =>
        obtain ⟨j, hj, rfl, rfl, hK⟩ := hrel
        clear HK KX x0 x1 x2 z0
        have HK := Lib.hid hK
        clear hK
        obtain ⟨⟨x0, x1, x2⟩, _, _, _⟩ := row3 (HK.out.at 0 rfl)
        have z0 := HK.out.lt 0 rfl
        by_cases hlt2 : j < N
        · obtain ⟨b, o, c, e1, _, _, hb, hcell⟩ := HR1.out (by omega)
          simp only [Value.slice.injEq] at e1
          obtain ⟨rfl, -, -⟩ := e1
          obtain ⟨⟨at1, ty1⟩, hl⟩ : ∃ l, x.trans[j]? = some l := ⟨_, List.getElem?_eq_getElem (by rw [HN.out]; exact hlt2)⟩
          have hr1 := HRng.out _ (List.mem_of_getElem? hl)
          have hr2 := HTyr.out _ (List.mem_of_getElem? hl)
          dsimp only at hr1 hr2
          rw [HM.out] at hr2
          obtain ⟨q0, q1⟩ := hr1
          obtain ⟨q2, q3⟩ := hr2
          have hnext : transT (x.trans.take (j + 1)) = transT (x.trans.take j) ++ lineT (transW ⟨at1, ty1⟩) := by
            rw [List.take_add_one, hl]
            show transT (x.trans.take j ++ [_]) = _
            rw [transT_snoc]
          have hlen := HTr.out j (by omega)
          obtain ⟨c0, c1⟩ := hcell j _ hl
          dsimp only at c0 c1
          have k0 := (HK.out.below.cell (p := ⟨b, o + j * 2, none⟩) hb).trans c0
          have k1 := (HK.out.below.cell (p := ⟨b, o + j * 2 + 1, none⟩) hb).trans c1
          have hbw : b < wr.heap.size := Nat.lt_of_lt_of_le hb HK.out.below.size
          obtain ⟨st, hst⟩ : ∃ s, bs (Lib.itoa at1) = s := ⟨_, rfl⟩
          obtain ⟨sk, hsk⟩ : ∃ s, bs (Lib.itoa ty1) = s := ⟨_, rfl⟩
          obtain ⟨t, ht⟩ : ∃ s, bs (T0 ++ transT (x.trans.take j)) = s := ⟨_, rfl⟩
          have s1 := itoa_size at1 (by omega) (by omega)
          have s2 := itoa_size ty1 (by omega) (by omega)
          have s3 : (bs (T0 ++ transT (x.trans.take j))).size ≤ 60000000 := by rw [bs_size, List.length_append]; omega
          have hsum := trans_sum (T0 ++ transT (x.trans.take j)) at1 ty1 ht hst hsk
          have CN1 := CN.out at1 (by omega) (by omega)
          have CN2 := CN.out ty1 (by omega) (by omega)
          rw [hst] at CN1 s1
          rw [hsk] at CN2 s2
          rw [ht] at s3
          rw [ht]
          have HX := Lib.hid hnext
          have HS := Lib.hid hsum
          have Q3 : Hid (∀ w : World, Calls Tryz.prog 68 #[.int .i64 at1] w fun e w' => e = .returned (.string st) ∧ w' = w) := Lib.hid (fun w => (CN1 w).mono fun _ _ h => ⟨h.1, h.2.symm⟩)
          have Q4 : Hid (∀ w : World, Calls Tryz.prog 68 #[.int .i64 ty1] w fun e w' => e = .returned (.string sk) ∧ w' = w) := Lib.hid (fun w => (CN2 w).mono fun _ _ h => ⟨h.1, h.2.symm⟩)
          have hlt' : (j : Int) < (N : Int) := by omega
          have g1 : ¬ 9223372036854775807 < t.size + 3 := by omega
          have g2 : ¬ 9223372036854775807 < t.size + 3 + st.size := by omega
          have g3 : ¬ 9223372036854775807 < t.size + 3 + st.size + 1 := by omega
          have g4 : ¬ 9223372036854775807 < t.size + 3 + st.size + 1 + sk.size := by omega
          have g5 : ¬ 9223372036854775807 < t.size + 3 + st.size + 1 + sk.size + 1 := by omega
          clear hcell c0 c1 hl hnext hlen hst hsk ht CN1 CN2 hsum s1 s2 s3
          go_upto_region 16 with fail
          go_quiet ((first | (go_at_call 68; with_reducible exact Calls.quiet_of_same (Q3.out _)) | (go_at_call 68; with_reducible exact Calls.quiet_of_same (Q4.out _))))
          go_wp2_with fail
          go_roundw
          case rel =>
            refine ⟨j + 1, by omega, by go_num, ?_, HK.out.call (Civ.below_drewN (Below.refl _ _) _) rfl rfl rfl rfl⟩
            rw [HX.out, ← List.append_assoc]
            exact congrArg Value.string HS.out
          case measure => simp [intOf]; omega
        · obtain rfl : j = N := by omega
          have hlen := HTr.out j (Nat.le_refl _)
          rw [List.take_of_length_le (by rw [HN.out]; omega)] at hlen ⊢
          have hfl := HFs.out
          obtain ⟨t, ht⟩ : ∃ s, bs (T0 ++ transT x.trans) = s := ⟨_, rfl⟩
          have s3 : (bs (T0 ++ transT x.trans)).size ≤ 60000000 := by rw [bs_size, List.length_append]; omega
          have s4 : f.size ≤ 100 := by rw [HF.out, bs_size]; exact hfl
          have hsum := foot_sum (T0 ++ transT x.trans) x.foot ht
          rw [← HF.out] at hsum
          have hfin : bs (T0 ++ transT x.trans ++ lineT (footW x.foot)) = bs (Tb.textL x) := by
            rw [← HT0.out]
            rfl
          rw [hfin] at hsum
          rw [ht] at s3
          rw [ht]
          have HS := Lib.hid hsum
          have g1 : ¬ 9223372036854775807 < t.size + 7 := by omega
          have g2 : ¬ 9223372036854775807 < t.size + 7 + f.size := by omega
          have g3 : ¬ 9223372036854775807 < t.size + 7 + f.size + 1 := by omega
          clear hlen hfl ht s3 s4 hsum hfin
          go_wp2_with fail
          go_ret2
          exact ⟨congrArg (fun s => Ending.returned (.tuple #[Value.string s, .int .i64 0])) HS.out, HK.out.below⟩
end Go.Proofs.YtlaplgaccjmbhaaGreatDoor.Px
namespace Go.Proofs.YtlaplgaccjmbhaaGreatDoor.Px
open Go.RowKit
open Civ Tb
def fewB (x : Tab) (n : Nat) : Bool := (x.types.take 301).all (fun l => decide (l.abbr.size ≤ 300)) && decide (x.types.length ≤ 300) && decide (x.trans.length ≤ 80) && decide (n ≤ 300)
set_option maxHeartbeats 4000000 in
set_option maxRecDepth 100000 in
theorem few_any (x : Tab) (tv rv : Value) (f : ByteArray) (W : World) (h : TabV W tv rv f x) (hfs : f.size ≤ maxLen) :
    Calls Tryz.prog 28 #[.agg #[tv, rv, .string f]] W fun e w' => e = .returned (.bool (fewB x f.size)) ∧ Below W.heap.size W w' := by
  obtain ⟨ta, tc, htv, t1, t2⟩ := h.types.slice
  obtain ⟨ra, rc, hrv, r1, r2⟩ := h.trans.slice
  have hL1 := fun h0 => h.types.all h0
  obtain ⟨M, hM⟩ : ∃ n, x.types.length = n := ⟨_, rfl⟩
  obtain ⟨N, hN⟩ : ∃ n, x.trans.length = n := ⟨_, rfl⟩
  rw [hM] at htv t1 hL1
  rw [hN] at hrv r1
  subst htv hrv
  unfold maxLen at t2 r2 hfs
  have K0 := Lib.hid ((Kp.start W).alloc (.cells #[.slice ta M tc, .slice ra N rc, .string f] 25))
  have HL1 := Lib.hid hL1
  have HM := Lib.hid hM
  have hlcs := h.lcs
  have HLc := Lib.hid hlcs
  have hB : fewB x f.size = ((x.types.take 301).all (fun l => decide (l.abbr.size ≤ 300)) && decide (M ≤ 300) && decide (N ≤ 80) && decide (f.size ≤ 300)) := by unfold fewB; rw [hM, hN]
  rw [hB]
  have T0 : Hid ((x.types.take 0).all (fun l => decide (l.abbr.size ≤ 300)) = true) := Lib.hid rfl
  clear h hL1 hM hN hB hlcs
  go_enter Tryz.func28, Tryz.ntmps28
  go_wp2_with fail
  go_loopw [3] (fun v3 wr => ∃ i : Nat, i ≤ M ∧ i ≤ 301 ∧ v3 = .int .i64 i ∧ (x.types.take i).all (fun l => decide (l.abbr.size ≤ 300)) = true ∧ Kp [(W.heap.size, .cells #[.slice ta M tc, .slice ra N rc, .string f] 25 (0, 0))] [] W wr) (fun v3 _ => M - (intOf v3).toNat)
  case atStart => exact ⟨0, by omega, by omega, rfl, T0.out, K0.out⟩
  case round =>
    obtain ⟨i, hi, hi2, rfl, hall, hK⟩ := hrel
    have HK := Lib.hid hK
    have HA := Lib.hid hall
    clear hK hall K0 T0
    obtain ⟨⟨x0, x1, x2⟩, _, _, _⟩ := row3 (HK.out.at 0 rfl)
    have z0 := HK.out.lt 0 rfl
    by_cases hlt : i < M ∧ i < 301
    · obtain ⟨l1, l2⟩ := hlt
      obtain ⟨b, o, c, e1, _, _, hb, hcell⟩ := HL1.out (by omega)
      simp only [Value.slice.injEq] at e1
      obtain ⟨rfl, -, -⟩ := e1
      obtain ⟨⟨lo, ld, la⟩, hl⟩ : ∃ l, x.types[i]? = some l := ⟨_, List.getElem?_eq_getElem (by rw [HM.out]; exact l1)⟩
      obtain ⟨c0, c1, c2⟩ := hcell i _ hl
      dsimp only at c0 c1 c2
      have k2 := (HK.out.below.cell (p := ⟨b, o + i * 3 + 2, none⟩) hb).trans c2
      have hbw : b < wr.heap.size := Nat.lt_of_lt_of_le hb HK.out.below.size
      have hsz := (HLc.out _ (List.mem_of_getElem? hl)).2
      dsimp only at hsz
      unfold maxLen at hsz
      have j1 : (i : Int) < (M : Int) := by omega
      have j2 : (i : Int) < 301 := by omega
      have hmem : (⟨lo, ld, la⟩ : Lc) ∈ x.types.take 301 := List.mem_of_getElem? (i := i) (by rw [List.getElem?_take, if_pos l2]; exact hl)
      have hnx : (x.types.take (i + 1)).all (fun l => decide (l.abbr.size ≤ 300)) = ((x.types.take i).all (fun l => decide (l.abbr.size ≤ 300)) && decide (la.size ≤ 300)) := by
        rw [List.take_add_one, hl]
        show (x.types.take i ++ [_]).all _ = _
        rw [List.all_append]
        simp
      by_cases hbig : 300 < la.size
      · have j3 : (300 : Int) < (la.size : Int) := by omega
        have hno : (x.types.take 301).all (fun l => decide (l.abbr.size ≤ 300)) = false := by
          rw [List.all_eq_false]
          exact ⟨_, hmem, by simp; omega⟩
        have HN := Lib.hid hno
        clear hcell c0 c1 c2 hl hmem hno hnx
        go_wp2_with fail
        go_ret
        exact ⟨by rw [HN.out]; rfl, HK.out.below⟩
      · have j3 : ¬ (300 : Int) < (la.size : Int) := by omega
        have HX := Lib.hid (hnx.trans (by rw [HA.out, decide_eq_true (by omega)]))
        clear hcell c0 c1 c2 hl hmem hnx
        go_wp2_with fail
        go_roundw
        case rel => exact ⟨i + 1, by omega, by omega, by go_num, HX.out, HK.out⟩
        case measure => simp [intOf]; omega
    · have hend : (x.types.take 301).all (fun l => decide (l.abbr.size ≤ 300)) = true := by
        rcases Nat.lt_or_ge i 301 with h3 | h3
        · have h4 := HA.out
          rw [List.take_of_length_le (by rw [HM.out]; omega)] at h4
          rw [List.take_of_length_le (by rw [HM.out]; omega)]
          exact h4
        · have h4 := HA.out
          rw [show i = 301 by omega] at h4
          exact h4
      have HEnd := Lib.hid hend
      clear hend
      by_cases h1 : M ≤ 300
      · have hiM : i = M := by omega
        have k1 : ¬ (i : Int) < (M : Int) := by omega
        have k2 : (M : Int) ≤ 300 := by omega
        by_cases h2 : N ≤ 80
        · have k3 : (N : Int) ≤ 80 := by omega
          by_cases h3 : f.size ≤ 300
          · have k4 : (f.size : Int) ≤ 300 := by omega
            have HQ := Lib.hid (And.intro h1 (And.intro h2 h3))
            clear hlt hiM h1 h2 h3
            go_wp2_with fail
            go_ret
            exact ⟨by rw [HEnd.out, decide_eq_true HQ.out.1, decide_eq_true HQ.out.2.1, decide_eq_true HQ.out.2.2]; rfl, HK.out.below⟩
          · have k4 : ¬ (f.size : Int) ≤ 300 := by omega
            have HQ := Lib.hid h3
            clear hlt hiM h1 h2 h3
            go_wp2_with fail
            go_ret
            exact ⟨by rw [HEnd.out, decide_eq_false HQ.out, Bool.and_false]; rfl, HK.out.below⟩
        · have k3 : ¬ (N : Int) ≤ 80 := by omega
          have HQ := Lib.hid h2
          clear hlt hiM h1 h2
          go_wp2_with fail
          go_ret
          exact ⟨by rw [HEnd.out, decide_eq_false HQ.out, Bool.and_false, Bool.false_and]; rfl, HK.out.below⟩
      · have hi3 : i = 301 := by omega
        subst hi3
        have k2 : ¬ (M : Int) ≤ 300 := by omega
        have HQ := Lib.hid h1
        by_cases hm : M = 301
        · have k1 : ¬ (301 : Int) < (M : Int) := by omega
          clear hlt h1 hm
          go_wp2_with fail
          go_ret
          exact ⟨by rw [HEnd.out, decide_eq_false HQ.out, Bool.and_false, Bool.false_and, Bool.false_and]; rfl, HK.out.below⟩
        · have k1 : (301 : Int) < (M : Int) := by omega
          clear hlt h1 hm
          go_wp2_with fail
          go_ret
          exact ⟨by rw [HEnd.out, decide_eq_false HQ.out, Bool.and_false, Bool.false_and, Bool.false_and]; rfl, HK.out.below⟩
end Go.Proofs.YtlaplgaccjmbhaaGreatDoor.Px

