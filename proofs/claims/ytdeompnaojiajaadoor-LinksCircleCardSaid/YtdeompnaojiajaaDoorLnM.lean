/- The law LinksTell, walked. -/
import Derived.Test.YtdeompnaojiajaaDoorLnQ
import Derived.Test.YtdeompnaojiajaaDoorLnS
namespace Go.Proofs.YtdeompnaojiajaaDoor.Px
open Go.RowKit
open Go.Maps (Keyed)
open Lk

theorem SrcV.names_len {W : World} {zv lv : Value} {Z : List Zo} {L : List (List UInt8 × List UInt8)} (h : SrcV W zv lv Z L) : ∀ x ∈ namesL (znames Z) L, x.length ≤ maxLen := by
  intro x hx
  rcases (names_mem _ _ _).1 hx with hx | hx
  · obtain ⟨z, hz, rfl⟩ := List.mem_map.1 hx
    exact h.zn z hz
  · obtain ⟨z, hz, rfl⟩ := List.mem_map.1 hx
    exact (h.ln z hz).1
theorem names_few (Z : List (List UInt8)) (L : List (List UInt8 × List UInt8)) : (namesL Z L).length ≤ Z.length + L.length := by
  have := nodup_le (namesL Z L) (Z ++ nm L) ((names_incr Z L).imp (fun {a b} hab e => by subst e; exact List.lt_irrefl _ hab)) (fun x hx => List.mem_append.2 ((names_mem _ _ _).1 hx))
  rwa [List.length_append, nm_len] at this
set_option maxHeartbeats 8000000 in
set_option maxRecDepth 100000 in
theorem tells_any (rv zv lv sv : Value) (Z : List Zo) (L : List (List UInt8 × List UInt8)) (q : List UInt8) (W : World) (h : SrcV W zv lv Z L) (hzn : ∀ n c, zv = .slice none n c → c = 0) (hln : ∀ n c, lv = .slice none n c → c = 0) (hq : q.length ≤ maxLen) :
    Calls Tryd.prog 3 #[.agg #[rv, zv, lv, sv], .string (bs q)] W fun e w' => e = .returned (.bool true) ∧ Below W.heap.size W w' := by
  have KB := Lib.hid ((Kp.start W).allocAt W.heap.size rfl (.cells #[rv, zv, lv, sv] 27))
  obtain ⟨W1, hW1⟩ : ∃ X, W.alloc (.cells #[rv, zv, lv, sv] 27) = X := ⟨_, rfl⟩
  rw [hW1] at KB
  obtain ⟨v0, v1, v2, v3⟩ := row4 (KB.out.at 0 rfl)
  have CFew := Lib.hid (few_any rv zv lv sv Z L W1 (h.keep KB.out.below))
  have HSrc := Lib.hid h
  have HQ := Lib.hid hq
  have HZn := Lib.hid hzn
  have HLn := Lib.hid hln
  obtain ⟨sq, hsq⟩ : ∃ s, bs q = s := ⟨_, rfl⟩
  rw [hsq]
  have HSq := Lib.hid hsq
  clear h hq hsq hzn hln
  go_enter Tryd.func3, Tryd.ntmps3
  go_wp2_with fail
  refine CFew.out.mono ?_
  rintro e X ⟨r, rfl, hr, hb⟩
  have K1 := Lib.hid (KB.out.keep hb)
  have HRr := Lib.hid hr
  obtain ⟨y0, y1, y2, y3⟩ := row4 (K1.out.at 0 rfl)
  clear hb v0 v1 v2 v3 CFew hr hW1
  cases r with
  | false =>
    go_wp2_with (first
      | (go_at_call 9; refine (works_any _).mono ?_; rintro e X2 ⟨rfl, hb⟩; have K2 := Lib.hid (K1.out.keep hb); clear hb)
      | go_in)
    refine bodyPost_ret (v := .bool true) (by simp [results, Tryd.results3, go_sem]) rfl ⟨rfl, K2.out.below⟩
  | true =>
    by_cases hl : (100 : Int) < (sq.size : Int)
    · go_wp2_with (first
        | (go_at_call 9; refine (works_any _).mono ?_; rintro e X2 ⟨rfl, hb⟩; have K2 := Lib.hid (K1.out.keep hb); clear hb)
        | go_in)
      refine bodyPost_ret (v := .bool true) (by simp [results, Tryd.results3, go_sem]) rfl ⟨rfl, K2.out.below⟩
    · obtain ⟨hz20, hl20⟩ := HRr.out rfl
      have CCz := Lib.hid (fun (Y : World) (hB : Below W.heap.size W Y) => clone_zones Z zv Y (HSrc.out.keep hB).zo (fun c => HZn.out _ c) (by omega))
      have CCl := Lib.hid (fun (Y : World) (hB : Below W.heap.size W Y) => clone_links L lv Y (HSrc.out.keep hB).lk (fun c => HLn.out _ c) (by omega))
      have CNr := Lib.hid (fun (Y : World) (hB : Below W.heap.size W Y) => names_ref rv zv lv sv Z L Y (HSrc.out.keep hB) (by omega) (by omega))
      have CNa := Lib.hid (fun (Y : World) (hB : Below W.heap.size W Y) => names_any rv zv lv sv Z L Y (HSrc.out.keep hB) (by omega) (by omega))
      have CFa := Lib.hid (fun (Y : World) (hB : Below W.heap.size W Y) (n : List UInt8) (hn : n.length ≤ maxLen) => find_any rv zv lv sv Z L n Y (HSrc.out.keep hB) hn (by omega) (by omega))
      have CFr := Lib.hid (fun (Y : World) (hB : Below W.heap.size W Y) (n : List UInt8) => find_ref rv zv lv sv Z L n Y (HSrc.out.keep hB) (by omega) (by omega))
      have CCa := Lib.hid (fun (Y : World) (hB : Below W.heap.size W Y) => check_any rv zv lv sv Z L Y (HSrc.out.keep hB) (by omega) (by omega))
      have CCr := Lib.hid (fun (Y : World) (hB : Below W.heap.size W Y) => check_ref rv zv lv sv Z L Y (HSrc.out.keep hB) (by omega) (by omega))
      have HNlen := Lib.hid (show (namesL (znames Z) L).length ≤ 40 from by have := names_few (znames Z) L; rw [znames_len] at this; omega)
      have HNx := Lib.hid HSrc.out.names_len
      obtain ⟨N, hN⟩ : ∃ N, namesL (znames Z) L = N := ⟨_, rfl⟩
      rw [hN] at CNr CNa HNlen HNx
      clear hN
      obtain ⟨C, hC⟩ : ∃ C, checkL (znames Z) L zoneOk = C := ⟨_, rfl⟩
      rw [hC] at CCa CCr
      clear hC
      obtain ⟨⟨C1, C2⟩, C3⟩ := C
      obtain ⟨nN, hnN⟩ : ∃ n, N.length = n := ⟨_, rfl⟩
      have HnN := Lib.hid hnN
      rw [hnN] at HNlen
      have hn40 := HNlen.out
      clear hnN
      obtain ⟨i0, hi, hz0, hz1, hz2⟩ := info_partsU infoStr
      go_upto_region 3 with fail
      have HS := Lib.hid (fun (Y : World) (hB : Below X.heap.size X Y) => (show Y.cell? ⟨W.heap.size, 0, none⟩ = some rv ∧ Y.cell? ⟨W.heap.size, 1, none⟩ = some zv ∧ Y.cell? ⟨W.heap.size, 2, none⟩ = some lv ∧ Y.cell? ⟨W.heap.size, 3, none⟩ = some sv ∧ Below X.heap.size X Y from
        ⟨cells_at ((K1.out.keep hB).at 0 rfl) 0, cells_at ((K1.out.keep hB).at 0 rfl) 1, cells_at ((K1.out.keep hB).at 0 rfl) 2, cells_at ((K1.out.keep hB).at 0 rfl) 3, hB⟩))
      have HX0 : Hid (Below X.heap.size X X.drew) := Lib.hid (bdrew X)
      have HXW := Lib.hid (fun (Y : World) (hB : Below X.heap.size X Y) => (show Below W.heap.size W Y from (K1.out.keep hB).below))
      obtain ⟨t0, t1, t2, t3, _⟩ := HS.out X (Below.refl _ _)
      go_region_held3 (fun w' => w'.cell? ⟨W.heap.size, 0, none⟩ = some rv ∧ w'.cell? ⟨W.heap.size, 1, none⟩ = some zv ∧ w'.cell? ⟨W.heap.size, 2, none⟩ = some lv ∧ w'.cell? ⟨W.heap.size, 3, none⟩ = some sv ∧ Below X.heap.size X w')
        (first | with_reducible exact HS.out _ HX2.out | with_reducible exact HS.out _ HX1.out | with_reducible exact HS.out _ HX0.out)
        (first
          | (go_at_call 11; refine (CCl.out _ (HXW.out _ HX1.out)).mono ?_; rintro e X3 ⟨cl, rfl, hk⟩; have HCl := Lib.hid (SlV.of_own (hk.row 0 rfl)); have HCz2 := Lib.hid (HCz.out.keep hk.below); have HX2 : Hid (Below X.heap.size X X3) := Lib.hid (HX1.out.trans (hk.below.mono HX1.out.size)); clear hk)
          | (go_at_call 10; refine (CCz.out _ (HXW.out _ HX0.out)).mono ?_; rintro e X2 ⟨cz, rfl, hk⟩; have HCz := Lib.hid (SlV.of_own (hk.row 0 rfl)); have HX1 : Hid (Below X.heap.size X X2) := Lib.hid (HX0.out.trans (hk.below.mono HX0.out.size)); clear hk))
      all_goals
        have K3 := Lib.hid (K1.out.keep HX2.out)
        obtain ⟨s0, s1, s2, s3⟩ := row4 (K3.out.at 0 rfl)
        clear t0 t1 t2 t3 HS HX0 HX1
        obtain ⟨ac, cc, ecz, _, _⟩ := HCz2.out.slA
        subst ecz
        go_wp2_with (first
          | (go_at_call 12; refine (CNr.out _ K3.out.below).mono ?_; rintro e X4 ⟨vN, rfl, hk⟩; rw [HnN.out] at hk; obtain ⟨an, cn, rfl⟩ : ∃ a c, vN = .slice a nN c := own_slice (hk.row 0 rfl); have KN := Lib.hid (hk.allocAt X4.heap.size rfl (.cells #[.string sq] 9)); clear hk)
          | (at_builtin; refine wpList_append_own_at _ rfl (.tmp 35) (.tmp 37) 25 rfl X3.heap.size 9 i0 (.string ⟨#[]⟩) 1 16 Tryd.underlying25 hi hz0 hz1 hz2 rfl (by decide) _ nN _ rfl (KN.out.row 0 rfl) ⟨X4.heap.size, 0, none⟩ 1 1 [.string sq] rfl rfl ?c1 ?c2 ?c3 ?c4 ?c5 ?_; (case c1 => exact World.news_of_block (KN.out.at 0 rfl)); (case c2 => simp [Value.oneCell']); (case c3 => unfold maxLen; omega); (case c4 => omega); (case c5 => exact KN.out.below.size); intro v' w2 hown hgrow _ hat; obtain ⟨a5, c5, rfl⟩ : ∃ a c, v' = .slice a (nN + 1) c := own_slice hown; have KA := Lib.hid (KN.out.append hown hgrow hat).drop; clear hown hgrow hat)
          | go_in)
        have HAl := Lib.hid ((SlV.of_own (KA.out.row 0 rfl)).allA (Nat.succ_pos nN))
        have K4 := Lib.hid (K3.out.keep KA.out.below)
        have HB4 := KA.out.below
        clear s0 s1 s2 s3 KN
        go_loopw [8, 9, 10, 11, 12, 40] (fun _ _ _ _ _ i40 wr => ∃ i : Nat, i ≤ nN + 1 ∧ i40 = .int .i64 (i : Int) ∧ Below w2.heap.size w2 wr) (fun _ _ _ _ _ i40 _ => nN + 1 - (intOf i40).toNat)
        case atStart => exact ⟨0, by omega, rfl, Below.refl _ _⟩
        case round =>
          obtain ⟨i, hi', rfl, hB⟩ := hrel
          have HB := Lib.hid hB
          have HK := Lib.hid (K4.out.keep HB.out)
          obtain ⟨u0, u1, u2, u3⟩ := row4 (HK.out.at 0 rfl)
          clear hB
          by_cases hlt : i < nN + 1
          · obtain ⟨b, o, c', e1, _, _, hb, hcell⟩ := HAl.out
            simp only [Value.slice.injEq] at e1
            obtain ⟨rfl, _, rfl⟩ := e1
            obtain ⟨x, hx, hxl⟩ : ∃ x : List UInt8, (N.map svv ++ [.string sq])[i]? = some (.string (bs x)) ∧ x.length ≤ maxLen := by
              by_cases hiN : i < nN
              · refine ⟨N[i]'(by rw [HnN.out]; exact hiN), ?_, HNx.out _ (List.getElem_mem _)⟩
                rw [List.getElem?_append_left (by rw [List.length_map, HnN.out]; exact hiN), List.getElem?_map, List.getElem?_eq_getElem (by rw [HnN.out]; exact hiN)]
                rfl
              · refine ⟨q, ?_, HQ.out⟩
                rw [List.getElem?_append_right (by rw [List.length_map, HnN.out]; omega), List.length_map, HnN.out, show i - nN = 0 by omega, HSq.out]
                rfl
            have k0 := (HB.out.cell (p := ⟨b, o + i, none⟩) hb).trans (hcell i _ hx)
            have hbw := Nat.lt_of_lt_of_le hb HB.out.size
            have CF1 := Lib.hid (fun (Y : World) (hB : Below W.heap.size W Y) => CFa.out Y hB x hxl)
            have CF2 := Lib.hid (fun (Y : World) (hB : Below W.heap.size W Y) => CFr.out Y hB x)
            obtain ⟨F, hF⟩ : ∃ F, findL (znames Z) L x = F := ⟨_, rfl⟩
            rw [hF] at CF1 CF2
            obtain ⟨F1, F2⟩ := F
            obtain ⟨sx, hsx⟩ : ∃ s, bs x = s := ⟨_, rfl⟩
            rw [hsx] at k0 CF1 CF2
            clear hx hxl hcell hF hsx
            go_wp2_with (first
              | (go_at_call 13; refine (CF1.out _ HK.out.below).mono ?_; rintro e X5 ⟨rfl, hb5⟩; have K5 := Lib.hid (HK.out.keep hb5); have HB5 := Lib.hid (HB.out.trans (hb5.mono HB.out.size)); obtain ⟨y0, y1, y2, y3⟩ := row4 (K5.out.at 0 rfl); clear hb5)
              | (go_at_call 14; refine (CF2.out _ K5.out.below).mono ?_; rintro e X6 ⟨rfl, hb6⟩; have HB6 := Lib.hid (HB5.out.trans (hb6.mono HB5.out.size)); clear hb6)
              | go_in)
            go_roundw
            case rel => exact ⟨i + 1, by omega, by go_num, HB6.out⟩
            case measure => simp [intOf]; omega
          · obtain rfl : i = nN + 1 := by omega
            clear HAl
            go_upto_region 14 with (first
              | (go_at_call 15; refine (CCa.out _ HK.out.below).mono ?_; rintro e X5 ⟨rfl, hb5⟩; have HB5 := Lib.hid ((HB.out.trans (hb5.mono HB.out.size)).alloc (HB.out.trans (hb5.mono HB.out.size)).size (.cells #[.int .i64 C1, .int .i64 C2, .int .i64 0] 42)); have K5 := Lib.hid ((HK.out.keep hb5).allocAt X5.heap.size rfl (.cells #[.int .i64 C1, .int .i64 C2, .int .i64 0] 42)); obtain ⟨y0, y1, y2, y3⟩ := row4 (K5.out.at 1 rfl); clear hb5)
              | (go_at_call 16; refine (CCr.out _ K5.out.below).mono ?_; rintro e X6 ⟨rfl, hb6⟩; have HB6 := Lib.hid ((HB5.out.trans (hb6.mono HB5.out.size)).alloc (HB5.out.trans (hb6.mono HB5.out.size)).size (.cells #[.int .i64 C1, .int .i64 C2, .int .i64 0] 42)); have K6 := Lib.hid ((K5.out.keep hb6).allocAt X6.heap.size rfl (.cells #[.int .i64 C1, .int .i64 C2, .int .i64 0] 42)); clear hb6)
              | go_in)
            clear y0 y1 y2 y3 u0 u1 u2 u3
            obtain ⟨Wq, hWq⟩ : ∃ Y, X6.alloc (.cells #[.int .i64 C1, .int .i64 C2, .int .i64 0] 42) = Y := ⟨_, rfl⟩
            rw [hWq] at K6 HB6 ⊢
            clear hWq
            have HXq := Lib.hid (show Below X3.heap.size X3 Wq from HB4.trans (HB6.out.mono HB4.size))
            have HQS := Lib.hid (fun (Y : World) (hB : Below Wq.heap.size Wq Y) => (show Y.cell? ⟨W.heap.size, 0, none⟩ = some rv ∧ Y.cell? ⟨W.heap.size, 1, none⟩ = some zv ∧ Y.cell? ⟨W.heap.size, 2, none⟩ = some lv ∧ Y.cell? ⟨W.heap.size, 3, none⟩ = some sv ∧ Y.cell? ⟨X5.heap.size, 0, none⟩ = some (.int .i64 C1) ∧ Y.cell? ⟨X5.heap.size, 1, none⟩ = some (.int .i64 C2) ∧ Y.cell? ⟨X5.heap.size, 2, none⟩ = some (.int .i64 0) ∧ Y.cell? ⟨X6.heap.size, 0, none⟩ = some (.int .i64 C1) ∧ Y.cell? ⟨X6.heap.size, 1, none⟩ = some (.int .i64 C2) ∧ Y.cell? ⟨X6.heap.size, 2, none⟩ = some (.int .i64 0) ∧ Below Wq.heap.size Wq Y from
              ⟨cells_at ((K6.out.keep hB).at 2 rfl) 0, cells_at ((K6.out.keep hB).at 2 rfl) 1, cells_at ((K6.out.keep hB).at 2 rfl) 2, cells_at ((K6.out.keep hB).at 2 rfl) 3, cells_at ((K6.out.keep hB).at 1 rfl) 0, cells_at ((K6.out.keep hB).at 1 rfl) 1, cells_at ((K6.out.keep hB).at 1 rfl) 2, cells_at ((K6.out.keep hB).at 0 rfl) 0, cells_at ((K6.out.keep hB).at 0 rfl) 1, cells_at ((K6.out.keep hB).at 0 rfl) 2, hB⟩))
            have HQW := Lib.hid (fun (Y : World) (hB : Below Wq.heap.size Wq Y) => (show Below W.heap.size W Y from (K6.out.keep hB).below))
            have HY0 : Hid (Below Wq.heap.size Wq Wq.drew) := Lib.hid (bdrew Wq)
            obtain ⟨z0, z1, z2, z3, z4, z5, z6, z7, z8, z9, _⟩ := HQS.out Wq (Below.refl _ _)
            go_region_held3 (fun Y => Y.cell? ⟨W.heap.size, 0, none⟩ = some rv ∧ Y.cell? ⟨W.heap.size, 1, none⟩ = some zv ∧ Y.cell? ⟨W.heap.size, 2, none⟩ = some lv ∧ Y.cell? ⟨W.heap.size, 3, none⟩ = some sv ∧ Y.cell? ⟨X5.heap.size, 0, none⟩ = some (.int .i64 C1) ∧ Y.cell? ⟨X5.heap.size, 1, none⟩ = some (.int .i64 C2) ∧ Y.cell? ⟨X5.heap.size, 2, none⟩ = some (.int .i64 0) ∧ Y.cell? ⟨X6.heap.size, 0, none⟩ = some (.int .i64 C1) ∧ Y.cell? ⟨X6.heap.size, 1, none⟩ = some (.int .i64 C2) ∧ Y.cell? ⟨X6.heap.size, 2, none⟩ = some (.int .i64 0) ∧ Below Wq.heap.size Wq Y)
              (first | with_reducible exact HQS.out _ HY4.out | with_reducible exact HQS.out _ HY3.out | with_reducible exact HQS.out _ HY2.out | with_reducible exact HQS.out _ HY1.out | with_reducible exact HQS.out _ HY0.out)
              (first
                | (go_at_call 18; refine (CNa.out _ (HQW.out _ HY0.out)).mono ?_; rintro e Y1 ⟨va, rfl, hva, hb⟩; have HVa := Lib.hid hva; have HY1 : Hid (Below Wq.heap.size Wq Y1) := Lib.hid (HY0.out.trans (hb.mono HY0.out.size)); clear hva hb)
                | (go_at_call 12; refine (CNr.out _ (HQW.out _ HY1.out)).mono ?_; rintro e Y2 ⟨vb, rfl, hk⟩; have HVa2 := Lib.hid (HVa.out.keep hk.below); have HVb := Lib.hid (SlV.of_own (hk.row 0 rfl)); have HY2 : Hid (Below Wq.heap.size Wq Y2) := Lib.hid (HY1.out.trans (hk.below.mono HY1.out.size)); clear hk)
                | (go_at_call 17; refine (equal_strs N N va vb _ HVa2.out HVb.out).mono ?_; rintro e Y3 ⟨rfl, hb⟩; rw [decide_eq_true rfl]; have HY3 : Hid (Below Wq.heap.size Wq Y3) := Lib.hid (HY2.out.trans (hb.mono HY2.out.size)); clear hb)
                | (go_at_call 19; refine (equal_links L L cl lv _ (HCl.out.keep (HXq.out.trans (HY3.out.mono HXq.out.size))) (HSrc.out.keep (HQW.out _ HY3.out)).lk).mono ?_; rintro e Y4 ⟨rfl, hb⟩; rw [decide_eq_true rfl]; have HY4 : Hid (Below Wq.heap.size Wq Y4) := Lib.hid (HY3.out.trans (hb.mono HY3.out.size)); clear hb))
            all_goals
              clear z0 z1 z2 z3 z4 z5 z6 z7 z8 z9 HQS
              go_wp2_with fail
              have K7 := Lib.hid (K6.out.keep HY4.out)
              have HC7 := Lib.hid (HCz2.out.keep (HXq.out.trans (HY4.out.mono HXq.out.size)))
              obtain ⟨az, cz1, ez, _, _⟩ := HSrc.out.zo.slA
              subst ez
              go_loopw [17, 18, 100] (fun _ _ i100 wr => ∃ i : Nat, i ≤ Z.length ∧ i100 = .int .i64 (i : Int) ∧ Below Y4.heap.size Y4 wr) (fun _ _ i100 _ => Z.length - (intOf i100).toNat)
              case atStart => exact ⟨0, by omega, rfl, Below.refl _ _⟩
              case round =>
                obtain ⟨i, hi', rfl, hB⟩ := hrel
                have HB := Lib.hid hB
                have HK := Lib.hid (K7.out.keep HB.out)
                obtain ⟨u0, u1, u2, u3⟩ := row4 (HK.out.at 2 rfl)
                have hw0 := HK.out.lt 2 rfl
                clear hB
                by_cases hlt : i < Z.length
                · obtain ⟨b, o, c', e1, _, _, hb, hcell⟩ := HC7.out.allA (by omega)
                  simp only [Value.slice.injEq] at e1
                  obtain ⟨rfl, _, rfl⟩ := e1
                  obtain ⟨b', o', c'', e2, _, _, hb', hcell'⟩ := HSrc.out.zo.allA (by omega)
                  simp only [Value.slice.injEq] at e2
                  obtain ⟨rfl, _, rfl⟩ := e2
                  obtain ⟨x, hx⟩ : ∃ x, Z[i]? = some x := ⟨_, List.getElem?_eq_getElem hlt⟩
                  obtain ⟨q0, q1⟩ := zo_at Z hx
                  have k0 := (HB.out.cell (p := ⟨b, o + i * 2, none⟩) hb).trans (hcell _ _ q0)
                  have k1 := (HB.out.cell (p := ⟨b, o + i * 2 + 1, none⟩) hb).trans (hcell _ _ q1)
                  have l0 := (HK.out.below.cell (p := ⟨b', o' + i * 2, none⟩) hb').trans (hcell' _ _ q0)
                  have hbw := Nat.lt_of_lt_of_le hb HB.out.size
                  have hbw' := Nat.lt_of_lt_of_le hb' HK.out.below.size
                  obtain ⟨x1, x2, x3, x4⟩ := x
                  dsimp only at k0 k1 l0
                  obtain ⟨sx, hsx⟩ : ∃ s, bs x1 = s := ⟨_, rfl⟩
                  rw [hsx] at k0 l0
                  have KA := Lib.hid (HK.out.allocAt wr.heap.size rfl (.cells #[.string sx, .slice x2 x3 x4] 33))
                  have HBA := Lib.hid (HB.out.alloc HB.out.size (.cells #[.string sx, .slice x2 x3 x4] 33))
                  obtain ⟨m0, m1⟩ := row2 (KA.out.at 0 rfl)
                  clear hx hcell hcell' q0 q1 hsx
                  go_upto_region 19 with fail
                  go_quiet (fail)
                  go_wp2_with fail
                  go_roundw
                  case rel => exact ⟨i + 1, by omega, by go_num, below_drewN HBA.out _⟩
                  case measure => simp [intOf]; omega
                · have hiZ : i = Z.length := by omega
                  subst hiZ
                  go_wp2_with (first
                    | (go_at_call 9; refine (works_any _).mono ?_; rintro e X9 ⟨rfl, hb⟩; have K9 := Lib.hid (HK.out.keep hb); clear hb)
                    | go_in)
                  refine bodyPost_ret (v := .bool true) (by simp [results, Tryd.results3, go_sem]) rfl ⟨rfl, K9.out.below⟩
end Go.Proofs.YtdeompnaojiajaaDoor.Px
