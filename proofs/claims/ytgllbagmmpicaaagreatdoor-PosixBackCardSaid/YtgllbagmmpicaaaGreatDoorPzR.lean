/- The function posix.Print: the string of a TZ. -/
import Derived.Test.YtgllbagmmpicaaaGreatDoorPzQ
import Derived.Test.YtgllbagmmpicaaaGreatDoorPxS
import Derived.Deep.RegionWith
import Derived.Deep.RegionHeld3
import Derived.Deep.DeepCutAuto
namespace Go.Proofs.YtgllbagmmpicaaaGreatDoor.Px
open Go.RowKit
open Civ
open Off (dec two printN printO bs_add)

theorem print_bad (p : Pos) (ha : p.std.size ≤ 1000000) (hc : p.dst.size ≤ 1000000) (hp : p.ok = false) (w : World) :
    Calls Tryz.prog 13 #[p.val] w fun e w' => e = .returned (.tuple #[.string (bs []), .int .i64 2]) ∧ Below w.heap.size w w' := by
  have CC := Lib.hid (check_any p ha hc)
  rw [hp] at CC
  obtain ⟨a, b, c, d, ⟨k1, d1, m1, w1, s1⟩, ⟨k2, d2, m2, w2, s2⟩⟩ := p
  unfold Pos.val at CC ⊢
  dsimp only at CC ⊢
  have HA := Lib.hid ((Below.refl _ w).alloc (Nat.le_refl _) (.cells #[.string a, .int .i64 b, .string c, .int .i64 d, .int .i64 k1, .int .i64 d1, .int .i64 m1, .int .i64 w1, .int .i64 s1, .int .i64 k2, .int .i64 d2, .int .i64 m2, .int .i64 w2, .int .i64 s2] 25))
  clear hp ha hc
  go_enter Tryz.func13, Tryz.ntmps13
  go_wp2_with fail
  refine (CC.out _).mono ?_
  rintro _ V ⟨rfl, hb⟩
  rw [show codeE false = 2 from rfl]
  have HB := Lib.hid (HA.out.trans (hb.mono HA.out.size))
  clear hb
  go_wp2_with fail
  go_ret2
  exact ⟨rfl, HB.out⟩
theorem bdrew (w : World) : Below w.heap.size w w.drew := ⟨rfl, rfl, rfl, Nat.le_refl _, fun _ _ => rfl⟩
theorem ptA {W X : World} {B : Nat} {a c : List UInt8} {b d k1 d1 m1 w1 s1 k2 d2 m2 w2 s2 : Int} (h : RowAt W B #[.string (bs a), .int .i64 b, .string (bs c), .int .i64 d, .int .i64 k1, .int .i64 d1, .int .i64 m1, .int .i64 w1, .int .i64 s1, .int .i64 k2, .int .i64 d2, .int .i64 m2, .int .i64 w2, .int .i64 s2]) (hB : Below W.heap.size W X) :
    X.cell? ⟨B, 0, none⟩ = some (.string (bs a)) ∧ X.cell? ⟨B, 1, none⟩ = some (.int .i64 b) ∧ Below W.heap.size W X := by
  obtain ⟨c0, c1, c2, c3, c4, c5, c6, c7, c8, c9, c10, c11, c12, c13⟩ := (h.keep hB).pos
  exact ⟨c0, c1, hB⟩
theorem ptB {W X : World} {B : Nat} {a c : List UInt8} {b d k1 d1 m1 w1 s1 k2 d2 m2 w2 s2 : Int} (h : RowAt W B #[.string (bs a), .int .i64 b, .string (bs c), .int .i64 d, .int .i64 k1, .int .i64 d1, .int .i64 m1, .int .i64 w1, .int .i64 s1, .int .i64 k2, .int .i64 d2, .int .i64 m2, .int .i64 w2, .int .i64 s2]) (hB : Below W.heap.size W X) :
    X.cell? ⟨B, 4, none⟩ = some (.int .i64 k1) ∧ X.cell? ⟨B, 5, none⟩ = some (.int .i64 d1) ∧ X.cell? ⟨B, 6, none⟩ = some (.int .i64 m1) ∧ X.cell? ⟨B, 7, none⟩ = some (.int .i64 w1) ∧ X.cell? ⟨B, 8, none⟩ = some (.int .i64 s1) ∧ X.cell? ⟨B, 9, none⟩ = some (.int .i64 k2) ∧ X.cell? ⟨B, 10, none⟩ = some (.int .i64 d2) ∧ X.cell? ⟨B, 11, none⟩ = some (.int .i64 m2) ∧ X.cell? ⟨B, 12, none⟩ = some (.int .i64 w2) ∧ X.cell? ⟨B, 13, none⟩ = some (.int .i64 s2) ∧ Below W.heap.size W X := by
  obtain ⟨c0, c1, c2, c3, c4, c5, c6, c7, c8, c9, c10, c11, c12, c13⟩ := (h.keep hB).pos
  exact ⟨c4, c5, c6, c7, c8, c9, c10, c11, c12, c13, hB⟩
theorem ok_list {a c : List UInt8} {b d : Int} {x y : Dt} (hp : Pos.ok ⟨bs a, b, bs c, d, x, y⟩ = true) : a.all inB = true ∧ -89999 ≤ b ∧ b ≤ 89999 ∧ (c = [] ∨ (c ≠ [] ∧ c.all inB = true ∧ -89999 ≤ d ∧ d ≤ 89999 ∧ x.ok = true ∧ y.ok = true)) := by
  unfold Pos.ok Pos.stdB Pos.dstB Pos.noneB noneQ offB at hp
  dsimp only at hp
  rw [bs_list, bs_list] at hp
  simp only [Bool.and_eq_true, Bool.or_eq_true, decide_eq_true_eq] at hp
  obtain ⟨⟨h1, h2, h3⟩, h4⟩ := hp
  have hn : ∀ l, nameOk l = true → l.all inB = true ∧ l ≠ [] := by
    intro l h
    unfold nameOk at h
    simp only [Bool.and_eq_true, decide_eq_true_eq] at h
    exact ⟨h.2, by intro e; rw [e] at h; exact absurd h.1.1 (by decide)⟩
  refine ⟨(hn a h1).1, h2, h3, ?_⟩
  rcases h4 with h4 | h4
  · left
    have := h4.1.1.1.1.1.1.1.1.1.1.1
    rw [ByteArray.toList_eq, bs_list] at this
    simpa using this
  · right
    obtain ⟨⟨⟨h5, h6, h7⟩, h8⟩, h9⟩ := h4
    exact ⟨(hn c h5).2, (hn c h5).1, h6, h7, h8, h9⟩
set_option maxHeartbeats 4000000 in
set_option maxRecDepth 100000 in
theorem print_cells (a c : List UInt8) (b d k1 d1 m1 w1 s1 k2 d2 m2 w2 s2 : Int) (hp : Pos.ok ⟨bs a, b, bs c, d, ⟨k1, d1, m1, w1, s1⟩, ⟨k2, d2, m2, w2, s2⟩⟩ = true) (ha : a.length ≤ 1000) (hc : c.length ≤ 1000) (w : World) (hE : EnvAt w) :
    Calls Tryz.prog 13 #[.agg #[.string (bs a), .int .i64 b, .string (bs c), .int .i64 d, .int .i64 k1, .int .i64 d1, .int .i64 m1, .int .i64 w1, .int .i64 s1, .int .i64 k2, .int .i64 d2, .int .i64 m2, .int .i64 w2, .int .i64 s2]] w fun e w' =>
      e = .returned (.tuple #[.string (bs (printL ⟨bs a, b, bs c, d, ⟨k1, d1, m1, w1, s1⟩, ⟨k2, d2, m2, w2, s2⟩⟩)), .int .i64 0]) ∧ Below w.heap.size w w' := by
  have CC := Lib.hid (check_any ⟨bs a, b, bs c, d, ⟨k1, d1, m1, w1, s1⟩, ⟨k2, d2, m2, w2, s2⟩⟩ (by rw [bs_size]; omega) (by rw [bs_size]; omega))
  rw [hp] at CC
  unfold Pos.val at CC
  dsimp only at CC
  obtain ⟨hia, hb0, hb1, hcs⟩ := ok_list hp
  have CQ := Lib.hid (fun w => quote_any a ha hia w)
  have CS := Lib.hid (fun w hE => short_any (-b) (by omega) (by omega) w hE)
  have zq : (bs (quoteL a)).size ≤ 1002 := by rw [bs_size]; have := quoteL_len a; omega
  have zs : (bs (shortL (-b))).size ≤ 10 := by rw [bs_size]; exact shortL_len _
  have HL := Lib.hid (show bs (printL ⟨bs a, b, bs c, d, ⟨k1, d1, m1, w1, s1⟩, ⟨k2, d2, m2, w2, s2⟩⟩) = bs (if c.isEmpty then quoteL a ++ shortL (-b) else quoteL a ++ shortL (-b) ++ quoteL c ++ (if d = b + 3600 then [] else shortL (-d)) ++ 44 :: textL ⟨k1, d1, m1, w1, s1⟩ ++ 44 :: textL ⟨k2, d2, m2, w2, s2⟩) from rfl)
  obtain ⟨OUT, hOUT⟩ : ∃ x, bs (printL ⟨bs a, b, bs c, d, ⟨k1, d1, m1, w1, s1⟩, ⟨k2, d2, m2, w2, s2⟩⟩) = x := ⟨_, rfl⟩
  rw [hOUT] at HL ⊢
  have HA := Lib.hid ((Below.refl _ w).alloc (Nat.le_refl _) (.cells #[.string (bs a), .int .i64 b, .string (bs c), .int .i64 d, .int .i64 k1, .int .i64 d1, .int .i64 m1, .int .i64 w1, .int .i64 s1, .int .i64 k2, .int .i64 d2, .int .i64 m2, .int .i64 w2, .int .i64 s2] 25))
  have HR := Lib.hid (rowAt_alloc w #[.string (bs a), .int .i64 b, .string (bs c), .int .i64 d, .int .i64 k1, .int .i64 d1, .int .i64 m1, .int .i64 w1, .int .i64 s1, .int .i64 k2, .int .i64 d2, .int .i64 m2, .int .i64 w2, .int .i64 s2] 25)
  have hcat1 : ¬ 9223372036854775807 < (bs (quoteL a)).size + (bs (shortL (-b))).size := by omega
  have q1 : IntKind.i64.wrap (-b) = -b := IntWalk.i64_in _ (by omega)
  have HE := Lib.hid hE
  clear hp hOUT hia hE
  go_enter Tryz.func13, Tryz.ntmps13
  go_wp2_with fail
  refine (CC.out _).mono ?_
  rintro _ V ⟨rfl, hb⟩
  rw [show codeE true = 0 from rfl]
  have HB := Lib.hid (HA.out.trans (hb.mono HA.out.size))
  have HEV := Lib.hid (HE.out.keep HB.out)
  have HRV := Lib.hid (HR.out.keep hb)
  obtain ⟨c0, c1, c2, c3, c4, c5, c6, c7, c8, c9, c10, c11, c12, c13⟩ := (HR.out.keep hb).pos
  clear hb
  go_wp2_with fail
  go_cut [4] (fun v wx => v = .string (bs (quoteL a) ++ bs (shortL (-b))) ∧ Below V.heap.size V wx)
  case first =>
    go_region_held3 (fun w' => w'.cell? ⟨w.heap.size, 0, none⟩ = some (.string (bs a)) ∧ w'.cell? ⟨w.heap.size, 1, none⟩ = some (.int .i64 b) ∧ Below V.heap.size V w')
      (first | exact ptA HRV.out HX1.out | exact ptA HRV.out HX0.out | exact ptA HRV.out (bdrew _))
      (first
        | (go_at_call 33; refine (CQ.out _).mono ?_; rintro e X ⟨rfl, hb⟩; have HX1 := Lib.hid (HX0.out.trans (hb.mono HX0.out.size)); clear hb)
        | (go_at_call 34; refine (CS.out _ (HEV.out.keep HX0.out)).mono ?_; rintro e X ⟨rfl, hb⟩; have HX1 := Lib.hid (HX0.out.trans (hb.mono HX0.out.size)); clear hb)
        | (go_at_call 33; refine (CQ.out _).mono ?_; rintro e X ⟨rfl, hb⟩; have HX0 : Hid (Below V.heap.size V X) := Lib.hid (below_over hb rfl rfl rfl rfl); clear hb)
        | (go_at_call 34; refine (CS.out _ (HEV.out.keep (bdrew _))).mono ?_; rintro e X ⟨rfl, hb⟩; have HX0 : Hid (Below V.heap.size V X) := Lib.hid (below_over hb rfl rfl rfl rfl); clear hb))
    all_goals
      go_wp2_with fail
      go_meet
      exact ⟨rfl, HX1.out⟩
  case rest =>
    obtain ⟨rfl, hb⟩ := hcut
    have hQ : bs (quoteL a) ++ bs (shortL (-b)) = bs (quoteL a ++ shortL (-b)) := bs_add _ _
    obtain ⟨A, hA⟩ : ∃ A, quoteL a ++ shortL (-b) = A := ⟨_, rfl⟩
    rw [hQ, hA]
    rw [hA] at HL
    have zA : (bs A).size ≤ 1012 := by
      have e1 := bs_size (quoteL a)
      have e2 := bs_size (shortL (-b))
      rw [← hA, bs_size, List.length_append]; omega
    have HBC := Lib.hid (HB.out.trans (hb.mono HB.out.size))
    have HRC := Lib.hid (HRV.out.keep hb)
    have HEC := Lib.hid (HEV.out.keep hb)
    clear c0 c1 c2 c3 c4 c5 c6 c7 c8 c9 c10 c11 c12 c13
    obtain ⟨c0, c1, c2, c3, c4, c5, c6, c7, c8, c9, c10, c11, c12, c13⟩ := (HRV.out.keep hb).pos
    clear hb hQ hA hcat1 zq zs CQ CS CC
    rcases hcs with rfl | ⟨hne, hic, hd0, hd1, hx, hy⟩
    · have e1 : (bs []).toList.isEmpty = true := (Off.bs_emp rfl).1
      have e2 : (bs []).toList = [] := (Off.bs_emp rfl).2
      go_wp2_with fail
      go_ret2
      exact ⟨by rw [HL.out]; rfl, HBC.out⟩
    · have e1 : (bs c).toList.isEmpty = false := Off.bs_full hne
      have hl : c.isEmpty = false := by simpa using hne
      rw [hl, if_neg (by decide)] at HL
      have CQ := Lib.hid (fun w => quote_any c hc hic w)
      have CS := Lib.hid (fun w hE => short_any (-d) (by omega) (by omega) w hE)
      have zq : (bs (quoteL c)).size ≤ 1002 := by rw [bs_size]; have := quoteL_len c; omega
      have zs : (bs (shortL (-d))).size ≤ 10 := by rw [bs_size]; exact shortL_len _
      have C1 := Lib.hid (fun w hE => text_any k1 d1 m1 w1 s1 hx w hE)
      have C2 := Lib.hid (fun w hE => text_any k2 d2 m2 w2 s2 hy w hE)
      have z1 : (bs (textL ⟨k1, d1, m1, w1, s1⟩)).size ≤ 23 := by rw [bs_size]; exact textL_len _
      have z2 : (bs (textL ⟨k2, d2, m2, w2, s2⟩)).size ≤ 23 := by rw [bs_size]; exact textL_len _
      clear hl hne hic hx hy
      go_wp2_with fail
      refine (CQ.out _).mono ?_
      rintro _ V1 ⟨rfl, hb⟩
      have HBD := Lib.hid (HBC.out.trans (hb.mono HBC.out.size))
      have HRD := Lib.hid (HRC.out.keep hb)
      have HED := Lib.hid (HEC.out.keep hb)
      clear c0 c1 c2 c3 c4 c5 c6 c7 c8 c9 c10 c11 c12 c13
      obtain ⟨c0, c1, c2, c3, c4, c5, c6, c7, c8, c9, c10, c11, c12, c13⟩ := (HRC.out.keep hb).pos
      clear hb
      have hcat2 : ¬ 9223372036854775807 < (bs A).size + (bs (quoteL c)).size := by omega
      have hAC : bs A ++ bs (quoteL c) = bs (A ++ quoteL c) := bs_add _ _
      obtain ⟨T1, hT1⟩ : ∃ T, textL ⟨k1, d1, m1, w1, s1⟩ = T := ⟨_, rfl⟩
      obtain ⟨T2, hT2⟩ : ∃ T, textL ⟨k2, d2, m2, w2, s2⟩ = T := ⟨_, rfl⟩
      rw [hT1] at C1 z1 HL
      rw [hT2] at C2 z2 HL
      have HAC := Lib.hid hAC
      have zAC : (bs (A ++ quoteL c)).size ≤ 2014 := by
        have e1 := bs_size A
        have e2 := bs_size (quoteL c)
        rw [bs_size, List.length_append]; omega
      obtain ⟨B, hB⟩ : ∃ B, A ++ quoteL c = B := ⟨_, rfl⟩
      rw [hB] at HAC HL zAC
      clear hAC hT1 hT2 hB
      by_cases hd : d = b + 3600
      · skip
        have t0 : (d != b + 3600) = false := by rw [bne_eq_false_iff_eq]; exact hd
        rw [if_pos hd, List.append_nil] at HL
        clear hd CS zs
        obtain ⟨V2, hV2⟩ : ∃ V2, V2 = V1 := ⟨_, rfl⟩
        subst hV2
        have HF := Lib.hid (show bs B ++ ⟨#[44]⟩ ++ bs T1 ++ ⟨#[44]⟩ ++ bs T2 = OUT by
          rw [HL.out, show (⟨#[44]⟩ : ByteArray) = bs [44] from rfl, bs_add, bs_add, bs_add, bs_add]; simp)
        have k44 : (⟨#[44]⟩ : ByteArray).size = 1 := rfl
        have hcA : ¬ 9223372036854775807 < (bs B).size + 1 := by omega
        have hcB : ¬ 9223372036854775807 < (bs B).size + 1 + (bs T1).size := by omega
        have hcC : ¬ 9223372036854775807 < (bs B).size + 1 + (bs T1).size + 1 := by omega
        have hcD : ¬ 9223372036854775807 < (bs B).size + 1 + (bs T1).size + 1 + (bs T2).size := by omega
        go_wp2_with fail
        rw [HAC.out]
        go_region_held3 (fun w' => w'.cell? ⟨w.heap.size, 4, none⟩ = some (.int .i64 k1) ∧ w'.cell? ⟨w.heap.size, 5, none⟩ = some (.int .i64 d1) ∧ w'.cell? ⟨w.heap.size, 6, none⟩ = some (.int .i64 m1) ∧ w'.cell? ⟨w.heap.size, 7, none⟩ = some (.int .i64 w1) ∧ w'.cell? ⟨w.heap.size, 8, none⟩ = some (.int .i64 s1) ∧ w'.cell? ⟨w.heap.size, 9, none⟩ = some (.int .i64 k2) ∧ w'.cell? ⟨w.heap.size, 10, none⟩ = some (.int .i64 d2) ∧ w'.cell? ⟨w.heap.size, 11, none⟩ = some (.int .i64 m2) ∧ w'.cell? ⟨w.heap.size, 12, none⟩ = some (.int .i64 w2) ∧ w'.cell? ⟨w.heap.size, 13, none⟩ = some (.int .i64 s2) ∧ Below V2.heap.size V2 w')
          (first | exact ptB HRD.out HX1.out | exact ptB HRD.out HX0.out | exact ptB HRD.out (bdrew _))
          (first
            | (go_at_call_of 35 (Value.agg #[.int .i64 k1, .int .i64 d1, .int .i64 m1, .int .i64 w1, .int .i64 s1]); refine (C1.out _ (HED.out.keep HX0.out)).mono ?_; rintro e X ⟨rfl, hb⟩; have HX1 := Lib.hid (HX0.out.trans (hb.mono HX0.out.size)); clear hb)
            | (go_at_call_of 35 (Value.agg #[.int .i64 k2, .int .i64 d2, .int .i64 m2, .int .i64 w2, .int .i64 s2]); refine (C2.out _ (HED.out.keep HX0.out)).mono ?_; rintro e X ⟨rfl, hb⟩; have HX1 := Lib.hid (HX0.out.trans (hb.mono HX0.out.size)); clear hb)
            | (go_at_call_of 35 (Value.agg #[.int .i64 k1, .int .i64 d1, .int .i64 m1, .int .i64 w1, .int .i64 s1]); refine (C1.out _ (HED.out.keep (bdrew _))).mono ?_; rintro e X ⟨rfl, hb⟩; have HX0 : Hid (Below V2.heap.size V2 X) := Lib.hid (below_over hb rfl rfl rfl rfl); clear hb)
            | (go_at_call_of 35 (Value.agg #[.int .i64 k2, .int .i64 d2, .int .i64 m2, .int .i64 w2, .int .i64 s2]); refine (C2.out _ (HED.out.keep (bdrew _))).mono ?_; rintro e X ⟨rfl, hb⟩; have HX0 : Hid (Below V2.heap.size V2 X) := Lib.hid (below_over hb rfl rfl rfl rfl); clear hb))
        all_goals
          go_wp2_with fail
          go_ret2
          exact ⟨congrArg (fun s => Ending.returned (.tuple #[Value.string s, .int .i64 0])) HF.out, HBD.out.trans (HX1.out.mono HBD.out.size)⟩
      · skip
        have t0 : (d != b + 3600) = true := by rw [bne_iff_ne]; exact hd
        rw [if_neg hd] at HL
        clear hd
        have q2 : IntKind.i64.wrap (-d) = -d := IntWalk.i64_in _ (by omega)
        have hcat3 : ¬ 9223372036854775807 < (bs B).size + (bs (shortL (-d))).size := by omega
        have HBS := Lib.hid (show bs B ++ bs (shortL (-d)) = bs (B ++ shortL (-d)) from bs_add _ _)
        have zBS : (bs (B ++ shortL (-d))).size ≤ 2024 := by
          have e1 := bs_size B
          have e2 := bs_size (shortL (-d))
          rw [bs_size, List.length_append]; omega
        obtain ⟨C, hC⟩ : ∃ C, B ++ shortL (-d) = C := ⟨_, rfl⟩
        rw [hC] at HBS HL zBS
        clear hC
        have HF := Lib.hid (show bs C ++ ⟨#[44]⟩ ++ bs T1 ++ ⟨#[44]⟩ ++ bs T2 = OUT by
          rw [HL.out, show (⟨#[44]⟩ : ByteArray) = bs [44] from rfl, bs_add, bs_add, bs_add, bs_add]; simp)
        have k44 : (⟨#[44]⟩ : ByteArray).size = 1 := rfl
        have hcA : ¬ 9223372036854775807 < (bs C).size + 1 := by omega
        have hcB : ¬ 9223372036854775807 < (bs C).size + 1 + (bs T1).size := by omega
        have hcC : ¬ 9223372036854775807 < (bs C).size + 1 + (bs T1).size + 1 := by omega
        have hcD : ¬ 9223372036854775807 < (bs C).size + 1 + (bs T1).size + 1 + (bs T2).size := by omega
        go_wp2_with fail
        rw [HAC.out]
        refine (CS.out _ HED.out).mono ?_
        rintro _ V2 ⟨rfl, hb⟩
        have HBE := Lib.hid (HBD.out.trans (hb.mono HBD.out.size))
        have HRE := Lib.hid (HRD.out.keep hb)
        have HEE := Lib.hid (HED.out.keep hb)
        clear c0 c1 c2 c3 c4 c5 c6 c7 c8 c9 c10 c11 c12 c13
        obtain ⟨c0, c1, c2, c3, c4, c5, c6, c7, c8, c9, c10, c11, c12, c13⟩ := (HRD.out.keep hb).pos
        clear hb
        go_wp2_with fail
        rw [HBS.out]
        go_region_held3 (fun w' => w'.cell? ⟨w.heap.size, 4, none⟩ = some (.int .i64 k1) ∧ w'.cell? ⟨w.heap.size, 5, none⟩ = some (.int .i64 d1) ∧ w'.cell? ⟨w.heap.size, 6, none⟩ = some (.int .i64 m1) ∧ w'.cell? ⟨w.heap.size, 7, none⟩ = some (.int .i64 w1) ∧ w'.cell? ⟨w.heap.size, 8, none⟩ = some (.int .i64 s1) ∧ w'.cell? ⟨w.heap.size, 9, none⟩ = some (.int .i64 k2) ∧ w'.cell? ⟨w.heap.size, 10, none⟩ = some (.int .i64 d2) ∧ w'.cell? ⟨w.heap.size, 11, none⟩ = some (.int .i64 m2) ∧ w'.cell? ⟨w.heap.size, 12, none⟩ = some (.int .i64 w2) ∧ w'.cell? ⟨w.heap.size, 13, none⟩ = some (.int .i64 s2) ∧ Below V2.heap.size V2 w')
          (first | exact ptB HRE.out HX1.out | exact ptB HRE.out HX0.out | exact ptB HRE.out (bdrew _))
          (first
            | (go_at_call_of 35 (Value.agg #[.int .i64 k1, .int .i64 d1, .int .i64 m1, .int .i64 w1, .int .i64 s1]); refine (C1.out _ (HEE.out.keep HX0.out)).mono ?_; rintro e X ⟨rfl, hb⟩; have HX1 := Lib.hid (HX0.out.trans (hb.mono HX0.out.size)); clear hb)
            | (go_at_call_of 35 (Value.agg #[.int .i64 k2, .int .i64 d2, .int .i64 m2, .int .i64 w2, .int .i64 s2]); refine (C2.out _ (HEE.out.keep HX0.out)).mono ?_; rintro e X ⟨rfl, hb⟩; have HX1 := Lib.hid (HX0.out.trans (hb.mono HX0.out.size)); clear hb)
            | (go_at_call_of 35 (Value.agg #[.int .i64 k1, .int .i64 d1, .int .i64 m1, .int .i64 w1, .int .i64 s1]); refine (C1.out _ (HEE.out.keep (bdrew _))).mono ?_; rintro e X ⟨rfl, hb⟩; have HX0 : Hid (Below V2.heap.size V2 X) := Lib.hid (below_over hb rfl rfl rfl rfl); clear hb)
            | (go_at_call_of 35 (Value.agg #[.int .i64 k2, .int .i64 d2, .int .i64 m2, .int .i64 w2, .int .i64 s2]); refine (C2.out _ (HEE.out.keep (bdrew _))).mono ?_; rintro e X ⟨rfl, hb⟩; have HX0 : Hid (Below V2.heap.size V2 X) := Lib.hid (below_over hb rfl rfl rfl rfl); clear hb))
        all_goals
          go_wp2_with fail
          go_ret2
          exact ⟨congrArg (fun s => Ending.returned (.tuple #[Value.string s, .int .i64 0])) HF.out, HBE.out.trans (HX1.out.mono HBE.out.size)⟩
theorem prt_any (p : Pos) (ha : p.std.size ≤ 1000) (hc : p.dst.size ≤ 1000) (w : World) (hE : EnvAt w) :
    Calls Tryz.prog 13 #[p.val] w fun e w' => e = .returned (.tuple #[.string (bs (printP p).1), .int .i64 (printP p).2]) ∧ Below w.heap.size w w' := by
  unfold printP
  cases hp : p.ok
  · rw [if_neg (by decide)]
    exact print_bad p (by omega) (by omega) hp w
  · rw [if_pos rfl]
    obtain ⟨a, b, c, d, ⟨k1, d1, m1, w1, s1⟩, ⟨k2, d2, m2, w2, s2⟩⟩ := p
    obtain ⟨a, rfl⟩ : ∃ l, a = bs l := ⟨a.data.toList, rfl⟩
    obtain ⟨c, rfl⟩ : ∃ l, c = bs l := ⟨c.data.toList, rfl⟩
    exact print_cells a c b d k1 d1 m1 w1 s1 k2 d2 m2 w2 s2 hp (by have := bs_size a; dsimp only at ha; omega) (by have := bs_size c; dsimp only at hc; omega) w hE
end Go.Proofs.YtgllbagmmpicaaaGreatDoor.Px
