/- The law PosixStrings returns true for every string and every TZ, and its tied card holds; no condition beyond the row itself. -/
import Derived.Test.YtgllbagmmpicaaaGreatDoorPwX
import Derived.Test.YtgllbagmmpicaaaGreatDoorPwL
import Derived.Test.YtgllbagmmpicaaaGreatDoorPwO
import Derived.Test.YtgllbagmmpicaaaGreatDoorPxQ
import Derived.Test.YtgllbagmmpicaaaGreatDoorPxW
import Derived.Test.YtgllbagmmpicaaaGreatDoorPrY
import Derived.Test.YtgllbagmmpicaaaGreatDoorPzT
namespace Go.Proofs.YtgllbagmmpicaaaGreatDoor.Px
open Go.RowKit
open Civ

set_option maxHeartbeats 4000000 in
set_option maxRecDepth 100000 in
theorem posixStrings_big (s : ByteArray) (a c : ByteArray) (b d k1 d1 m1 w1 s1 k2 d2 m2 w2 s2 : Int) (hs : s.size ≤ 9223372036854775807) (ha : a.size ≤ 9223372036854775807) (hc : c.size ≤ 9223372036854775807) (hbig : 200 < s.size ∨ 50 < a.size ∨ 50 < c.size) (W : World) (hE : EnvAt W) :
    Calls Tryz.prog 3 #[.string s, .agg #[.string a, .int .i64 b, .string c, .int .i64 d, .int .i64 k1, .int .i64 d1, .int .i64 m1, .int .i64 w1, .int .i64 s1, .int .i64 k2, .int .i64 d2, .int .i64 m2, .int .i64 w2, .int .i64 s2]] W fun e w' => e = .returned (.bool true) ∧ Below W.heap.size W w' := by
  have HE := Lib.hid hE
  have HA := Lib.hid ((Below.refl _ W).alloc (Nat.le_refl _) (.cells #[.string a, .int .i64 b, .string c, .int .i64 d, .int .i64 k1, .int .i64 d1, .int .i64 m1, .int .i64 w1, .int .i64 s1, .int .i64 k2, .int .i64 d2, .int .i64 m2, .int .i64 w2, .int .i64 s2] 25))
  clear hE
  have hb2 : decide ((200 : Int) < (s.size : Int)) = true ∨ (decide ((200 : Int) < (s.size : Int)) = false ∧ (decide ((50 : Int) < (a.size : Int)) = true ∨ (decide ((50 : Int) < (a.size : Int)) = false ∧ decide ((50 : Int) < (c.size : Int)) = true))) := by
    by_cases h0 : 200 < s.size
    · left; exact decide_eq_true (by omega)
    · right
      refine ⟨decide_eq_false (by omega), ?_⟩
      by_cases h : 50 < a.size
      · left; exact decide_eq_true (by omega)
      · right; exact ⟨decide_eq_false (by omega), decide_eq_true (by omega)⟩
  clear hbig
  rcases hb2 with h1 | ⟨h1, h2 | ⟨h2, h3⟩⟩
  all_goals
    go_enter Tryz.func3, Tryz.ntmps3
    go_wp2_with fail
    refine (works_any _ (HE.out.keep HA.out)).mono ?_
    rintro _ V ⟨rfl, hb⟩
    have HB := Lib.hid (HA.out.trans (hb.mono HA.out.size))
    clear hb
    go_wp2_with fail
    go_ret
    exact ⟨rfl, HB.out⟩
/-- the cells of three TZs, kept, beside what is below -/
theorem pr42 {W X : World} {B N M : Nat} {a c a' c' : ByteArray} {b d k1 d1 m1 w1 s1 k2 d2 m2 w2 s2 b' d' k1' d1' m1' w1' s1' k2' d2' m2' w2' s2' : Int} (h : RowAt W B #[.string a, .int .i64 b, .string c, .int .i64 d, .int .i64 k1, .int .i64 d1, .int .i64 m1, .int .i64 w1, .int .i64 s1, .int .i64 k2, .int .i64 d2, .int .i64 m2, .int .i64 w2, .int .i64 s2]) (hn : RowAt W N #[.string a', .int .i64 b', .string c', .int .i64 d', .int .i64 k1', .int .i64 d1', .int .i64 m1', .int .i64 w1', .int .i64 s1', .int .i64 k2', .int .i64 d2', .int .i64 m2', .int .i64 w2', .int .i64 s2']) (hm : RowAt W M #[.string a', .int .i64 b', .string c', .int .i64 d', .int .i64 k1', .int .i64 d1', .int .i64 m1', .int .i64 w1', .int .i64 s1', .int .i64 k2', .int .i64 d2', .int .i64 m2', .int .i64 w2', .int .i64 s2']) (hB : Below W.heap.size W X) :
    (X.cell? ⟨B, 0, none⟩ = some (.string a) ∧ X.cell? ⟨B, 1, none⟩ = some (.int .i64 b) ∧ X.cell? ⟨B, 2, none⟩ = some (.string c) ∧ X.cell? ⟨B, 3, none⟩ = some (.int .i64 d) ∧ X.cell? ⟨B, 4, none⟩ = some (.int .i64 k1) ∧ X.cell? ⟨B, 5, none⟩ = some (.int .i64 d1) ∧ X.cell? ⟨B, 6, none⟩ = some (.int .i64 m1) ∧ X.cell? ⟨B, 7, none⟩ = some (.int .i64 w1) ∧ X.cell? ⟨B, 8, none⟩ = some (.int .i64 s1) ∧ X.cell? ⟨B, 9, none⟩ = some (.int .i64 k2) ∧ X.cell? ⟨B, 10, none⟩ = some (.int .i64 d2) ∧ X.cell? ⟨B, 11, none⟩ = some (.int .i64 m2) ∧ X.cell? ⟨B, 12, none⟩ = some (.int .i64 w2) ∧ X.cell? ⟨B, 13, none⟩ = some (.int .i64 s2)) ∧ (X.cell? ⟨N, 0, none⟩ = some (.string a') ∧ X.cell? ⟨N, 1, none⟩ = some (.int .i64 b') ∧ X.cell? ⟨N, 2, none⟩ = some (.string c') ∧ X.cell? ⟨N, 3, none⟩ = some (.int .i64 d') ∧ X.cell? ⟨N, 4, none⟩ = some (.int .i64 k1') ∧ X.cell? ⟨N, 5, none⟩ = some (.int .i64 d1') ∧ X.cell? ⟨N, 6, none⟩ = some (.int .i64 m1') ∧ X.cell? ⟨N, 7, none⟩ = some (.int .i64 w1') ∧ X.cell? ⟨N, 8, none⟩ = some (.int .i64 s1') ∧ X.cell? ⟨N, 9, none⟩ = some (.int .i64 k2') ∧ X.cell? ⟨N, 10, none⟩ = some (.int .i64 d2') ∧ X.cell? ⟨N, 11, none⟩ = some (.int .i64 m2') ∧ X.cell? ⟨N, 12, none⟩ = some (.int .i64 w2') ∧ X.cell? ⟨N, 13, none⟩ = some (.int .i64 s2')) ∧ (X.cell? ⟨M, 0, none⟩ = some (.string a') ∧ X.cell? ⟨M, 1, none⟩ = some (.int .i64 b') ∧ X.cell? ⟨M, 2, none⟩ = some (.string c') ∧ X.cell? ⟨M, 3, none⟩ = some (.int .i64 d') ∧ X.cell? ⟨M, 4, none⟩ = some (.int .i64 k1') ∧ X.cell? ⟨M, 5, none⟩ = some (.int .i64 d1') ∧ X.cell? ⟨M, 6, none⟩ = some (.int .i64 m1') ∧ X.cell? ⟨M, 7, none⟩ = some (.int .i64 w1') ∧ X.cell? ⟨M, 8, none⟩ = some (.int .i64 s1') ∧ X.cell? ⟨M, 9, none⟩ = some (.int .i64 k2') ∧ X.cell? ⟨M, 10, none⟩ = some (.int .i64 d2') ∧ X.cell? ⟨M, 11, none⟩ = some (.int .i64 m2') ∧ X.cell? ⟨M, 12, none⟩ = some (.int .i64 w2') ∧ X.cell? ⟨M, 13, none⟩ = some (.int .i64 s2')) ∧ Below W.heap.size W X :=
  ⟨(h.keep hB).pos, (hn.keep hB).pos, (hm.keep hB).pos, hB⟩
set_option maxHeartbeats 4000000 in
set_option maxRecDepth 100000 in
theorem posixStrings_cells (l : List UInt8) (a c : ByteArray) (b d k1 d1 m1 w1 s1 k2 d2 m2 w2 s2 : Int) (hs : l.length ≤ 200) (ha : a.size ≤ 50) (hc : c.size ≤ 50) (W : World) (hE : EnvAt W) :
    Calls Tryz.prog 3 #[.string (bs l), .agg #[.string a, .int .i64 b, .string c, .int .i64 d, .int .i64 k1, .int .i64 d1, .int .i64 m1, .int .i64 w1, .int .i64 s1, .int .i64 k2, .int .i64 d2, .int .i64 m2, .int .i64 w2, .int .i64 s2]] W fun e w' => e = .returned (.bool true) ∧ Below W.heap.size W w' := by
  have HE := Lib.hid hE
  have HA := Lib.hid ((Below.refl _ W).alloc (Nat.le_refl _) (.cells #[.string a, .int .i64 b, .string c, .int .i64 d, .int .i64 k1, .int .i64 d1, .int .i64 m1, .int .i64 w1, .int .i64 s1, .int .i64 k2, .int .i64 d2, .int .i64 m2, .int .i64 w2, .int .i64 s2] 25))
  have HR := Lib.hid (rowAt_alloc W #[.string a, .int .i64 b, .string c, .int .i64 d, .int .i64 k1, .int .i64 d1, .int .i64 m1, .int .i64 w1, .int .i64 s1, .int .i64 k2, .int .i64 d2, .int .i64 m2, .int .i64 w2, .int .i64 s2] 25)
  have hz := bs_size l
  have h0 : ((bs l).size : Int) ≤ 200 := by omega
  have h1 : (a.size : Int) ≤ 50 := by omega
  have h2 : (c.size : Int) ≤ 50 := by omega
  have CP := Lib.hid (fun w hE => parse_any l w hE)
  have CQ := Lib.hid (fun w => ref_parse_any l w)
  rw [fin_two] at CP
  have CS := Lib.hid (fun w hE => prt_any ⟨a, b, c, d, ⟨k1, d1, m1, w1, s1⟩, ⟨k2, d2, m2, w2, s2⟩⟩ (by dsimp only; omega) (by dsimp only; omega) w hE)
  have CT := Lib.hid (fun w => rprt_any ⟨a, b, c, d, ⟨k1, d1, m1, w1, s1⟩, ⟨k2, d2, m2, w2, s2⟩⟩ (by dsimp only; omega) (by dsimp only; omega) w)
  have CC := Lib.hid (check_any ⟨a, b, c, d, ⟨k1, d1, m1, w1, s1⟩, ⟨k2, d2, m2, w2, s2⟩⟩ (by dsimp only; omega) (by dsimp only; omega))
  have CD := Lib.hid (ref_check ⟨a, b, c, d, ⟨k1, d1, m1, w1, s1⟩, ⟨k2, d2, m2, w2, s2⟩⟩ (by dsimp only; omega) (by dsimp only; omega))
  obtain ⟨ok, hok⟩ : ∃ o, codeE (Pos.ok ⟨a, b, c, d, ⟨k1, d1, m1, w1, s1⟩, ⟨k2, d2, m2, w2, s2⟩⟩) = o := ⟨_, rfl⟩
  rw [hok] at CC CD
  obtain ⟨q, hq⟩ : ∃ x, finG rfF l = x := ⟨_, rfl⟩
  rw [hq] at CP CQ
  obtain ⟨⟨a', b', c', d', ⟨k1', d1', m1', w1', s1'⟩, ⟨k2', d2', m2', w2', s2'⟩⟩, er⟩ := q
  obtain ⟨r, hr⟩ : ∃ x, printP ⟨a, b, c, d, ⟨k1, d1, m1, w1, s1⟩, ⟨k2, d2, m2, w2, s2⟩⟩ = x := ⟨_, rfl⟩
  rw [hr] at CS CT
  obtain ⟨out, fr⟩ := r
  unfold Pos.val at CP CQ CS CT CC CD
  dsimp only at CP CQ CS CT CC CD
  obtain ⟨X, hX⟩ : ∃ X, bs l = X := ⟨_, rfl⟩
  rw [hX] at CP CQ h0 ⊢
  obtain ⟨Y, hY⟩ : ∃ X, bs out = X := ⟨_, rfl⟩
  rw [hY] at CS CT
  clear hE hz hok hq hr hX hY hs ha hc
  go_enter Tryz.func3, Tryz.ntmps3
  go_wp2_with fail
  refine (CP.out _ (HE.out.keep HA.out)).mono ?_
  rintro _ V ⟨rfl, hb⟩
  have HB := Lib.hid (HA.out.trans (hb.mono HA.out.size))
  have HRV := Lib.hid (HR.out.keep hb)
  clear hb
  have HBa := Lib.hid (HB.out.alloc HB.out.size (.cells #[.string a', .int .i64 b', .string c', .int .i64 d', .int .i64 k1', .int .i64 d1', .int .i64 m1', .int .i64 w1', .int .i64 s1', .int .i64 k2', .int .i64 d2', .int .i64 m2', .int .i64 w2', .int .i64 s2'] 25))
  have HRa := Lib.hid (HRV.out.keep ((Below.refl _ V).alloc (Nat.le_refl _) (.cells #[.string a', .int .i64 b', .string c', .int .i64 d', .int .i64 k1', .int .i64 d1', .int .i64 m1', .int .i64 w1', .int .i64 s1', .int .i64 k2', .int .i64 d2', .int .i64 m2', .int .i64 w2', .int .i64 s2'] 25)))
  have HNa := Lib.hid (rowAt_alloc V #[.string a', .int .i64 b', .string c', .int .i64 d', .int .i64 k1', .int .i64 d1', .int .i64 m1', .int .i64 w1', .int .i64 s1', .int .i64 k2', .int .i64 d2', .int .i64 m2', .int .i64 w2', .int .i64 s2'] 25)
  go_wp2_with fail
  refine (CQ.out _).mono ?_
  rintro _ V2 ⟨rfl, hb⟩
  have HB2 := Lib.hid (HBa.out.trans (hb.mono HBa.out.size))
  have HR2 := Lib.hid (HRa.out.keep hb)
  have HN2 := Lib.hid (HNa.out.keep hb)
  clear hb
  have HB2a := Lib.hid (HB2.out.alloc HB2.out.size (.cells #[.string a', .int .i64 b', .string c', .int .i64 d', .int .i64 k1', .int .i64 d1', .int .i64 m1', .int .i64 w1', .int .i64 s1', .int .i64 k2', .int .i64 d2', .int .i64 m2', .int .i64 w2', .int .i64 s2'] 25))
  have HR2a := Lib.hid (HR2.out.keep ((Below.refl _ V2).alloc (Nat.le_refl _) (.cells #[.string a', .int .i64 b', .string c', .int .i64 d', .int .i64 k1', .int .i64 d1', .int .i64 m1', .int .i64 w1', .int .i64 s1', .int .i64 k2', .int .i64 d2', .int .i64 m2', .int .i64 w2', .int .i64 s2'] 25)))
  have HN2a := Lib.hid (HN2.out.keep ((Below.refl _ V2).alloc (Nat.le_refl _) (.cells #[.string a', .int .i64 b', .string c', .int .i64 d', .int .i64 k1', .int .i64 d1', .int .i64 m1', .int .i64 w1', .int .i64 s1', .int .i64 k2', .int .i64 d2', .int .i64 m2', .int .i64 w2', .int .i64 s2'] 25)))
  have HM2a := Lib.hid (rowAt_alloc V2 #[.string a', .int .i64 b', .string c', .int .i64 d', .int .i64 k1', .int .i64 d1', .int .i64 m1', .int .i64 w1', .int .i64 s1', .int .i64 k2', .int .i64 d2', .int .i64 m2', .int .i64 w2', .int .i64 s2'] 25)
  obtain ⟨e0, e1, e2, e3, e4, e5, e6, e7, e8, e9, e10, e11, e12, e13⟩ := HR2.out.pos
  have hz2 := HR2.out.1
  go_wp2_with fail
  refine (CS.out _ (HE.out.keep HB2a.out)).mono ?_
  rintro _ V3 ⟨rfl, hb⟩
  have HB3 := Lib.hid (HB2a.out.trans (hb.mono HB2a.out.size))
  have HR3 := Lib.hid (HR2a.out.keep hb)
  have HN3 := Lib.hid (HN2a.out.keep hb)
  have HM3 := Lib.hid (HM2a.out.keep hb)
  clear hb e0 e1 e2 e3 e4 e5 e6 e7 e8 e9 e10 e11 e12 e13 hz2
  obtain ⟨e0, e1, e2, e3, e4, e5, e6, e7, e8, e9, e10, e11, e12, e13⟩ := HR3.out.pos
  go_wp2_with fail
  refine (CT.out _).mono ?_
  rintro _ V4 ⟨rfl, hb⟩
  have HB4 := Lib.hid (HB3.out.trans (hb.mono HB3.out.size))
  have HR4 := Lib.hid (HR3.out.keep hb)
  have HN4 := Lib.hid (HN3.out.keep hb)
  have HM4 := Lib.hid (HM3.out.keep hb)
  clear hb e0 e1 e2 e3 e4 e5 e6 e7 e8 e9 e10 e11 e12 e13
  obtain ⟨e0, e1, e2, e3, e4, e5, e6, e7, e8, e9, e10, e11, e12, e13⟩ := HR4.out.pos
  obtain ⟨f0, f1, f2, f3, f4, f5, f6, f7, f8, f9, f10, f11, f12, f13⟩ := HN4.out.pos
  obtain ⟨g0, g1, g2, g3, g4, g5, g6, g7, g8, g9, g10, g11, g12, g13⟩ := HM4.out.pos
  go_wp2_with fail
  clear e0 f0 g0 e1 f1 g1 e2 f2 g2 e3 f3 g3 e4 f4 g4 e5 f5 g5 e6 f6 g6 e7 f7 g7 e8 f8 g8 e9 f9 g9 e10 f10 g10 e11 f11 g11 e12 f12 g12 e13 f13 g13
  go_region_held3 (fun w' => (w'.cell? ⟨W.heap.size, 0, none⟩ = some (.string a) ∧ w'.cell? ⟨W.heap.size, 1, none⟩ = some (.int .i64 b) ∧ w'.cell? ⟨W.heap.size, 2, none⟩ = some (.string c) ∧ w'.cell? ⟨W.heap.size, 3, none⟩ = some (.int .i64 d) ∧ w'.cell? ⟨W.heap.size, 4, none⟩ = some (.int .i64 k1) ∧ w'.cell? ⟨W.heap.size, 5, none⟩ = some (.int .i64 d1) ∧ w'.cell? ⟨W.heap.size, 6, none⟩ = some (.int .i64 m1) ∧ w'.cell? ⟨W.heap.size, 7, none⟩ = some (.int .i64 w1) ∧ w'.cell? ⟨W.heap.size, 8, none⟩ = some (.int .i64 s1) ∧ w'.cell? ⟨W.heap.size, 9, none⟩ = some (.int .i64 k2) ∧ w'.cell? ⟨W.heap.size, 10, none⟩ = some (.int .i64 d2) ∧ w'.cell? ⟨W.heap.size, 11, none⟩ = some (.int .i64 m2) ∧ w'.cell? ⟨W.heap.size, 12, none⟩ = some (.int .i64 w2) ∧ w'.cell? ⟨W.heap.size, 13, none⟩ = some (.int .i64 s2)) ∧ (w'.cell? ⟨V.heap.size, 0, none⟩ = some (.string a') ∧ w'.cell? ⟨V.heap.size, 1, none⟩ = some (.int .i64 b') ∧ w'.cell? ⟨V.heap.size, 2, none⟩ = some (.string c') ∧ w'.cell? ⟨V.heap.size, 3, none⟩ = some (.int .i64 d') ∧ w'.cell? ⟨V.heap.size, 4, none⟩ = some (.int .i64 k1') ∧ w'.cell? ⟨V.heap.size, 5, none⟩ = some (.int .i64 d1') ∧ w'.cell? ⟨V.heap.size, 6, none⟩ = some (.int .i64 m1') ∧ w'.cell? ⟨V.heap.size, 7, none⟩ = some (.int .i64 w1') ∧ w'.cell? ⟨V.heap.size, 8, none⟩ = some (.int .i64 s1') ∧ w'.cell? ⟨V.heap.size, 9, none⟩ = some (.int .i64 k2') ∧ w'.cell? ⟨V.heap.size, 10, none⟩ = some (.int .i64 d2') ∧ w'.cell? ⟨V.heap.size, 11, none⟩ = some (.int .i64 m2') ∧ w'.cell? ⟨V.heap.size, 12, none⟩ = some (.int .i64 w2') ∧ w'.cell? ⟨V.heap.size, 13, none⟩ = some (.int .i64 s2')) ∧ (w'.cell? ⟨V2.heap.size, 0, none⟩ = some (.string a') ∧ w'.cell? ⟨V2.heap.size, 1, none⟩ = some (.int .i64 b') ∧ w'.cell? ⟨V2.heap.size, 2, none⟩ = some (.string c') ∧ w'.cell? ⟨V2.heap.size, 3, none⟩ = some (.int .i64 d') ∧ w'.cell? ⟨V2.heap.size, 4, none⟩ = some (.int .i64 k1') ∧ w'.cell? ⟨V2.heap.size, 5, none⟩ = some (.int .i64 d1') ∧ w'.cell? ⟨V2.heap.size, 6, none⟩ = some (.int .i64 m1') ∧ w'.cell? ⟨V2.heap.size, 7, none⟩ = some (.int .i64 w1') ∧ w'.cell? ⟨V2.heap.size, 8, none⟩ = some (.int .i64 s1') ∧ w'.cell? ⟨V2.heap.size, 9, none⟩ = some (.int .i64 k2') ∧ w'.cell? ⟨V2.heap.size, 10, none⟩ = some (.int .i64 d2') ∧ w'.cell? ⟨V2.heap.size, 11, none⟩ = some (.int .i64 m2') ∧ w'.cell? ⟨V2.heap.size, 12, none⟩ = some (.int .i64 w2') ∧ w'.cell? ⟨V2.heap.size, 13, none⟩ = some (.int .i64 s2')) ∧ Below V4.heap.size V4 w')
    (first | exact pr42 HR4.out HN4.out HM4.out HX2.out | exact pr42 HR4.out HN4.out HM4.out HX1.out | exact pr42 HR4.out HN4.out HM4.out HX0.out | exact pr42 HR4.out HN4.out HM4.out (below_drew _))
    (first
      | (go_at_call 10; refine (works_any _ (HE.out.keep (HB4.out.trans (HX1.out.mono HB4.out.size)))).mono ?_; rintro e X ⟨rfl, hb⟩; have HX2 := Lib.hid (HX1.out.trans (hb.mono HX1.out.size)); clear hb)
      | (go_at_call 15; refine (CC.out _).mono ?_; rintro e X ⟨rfl, hb⟩; have HX1 := Lib.hid (HX0.out.trans (hb.mono HX0.out.size)); clear hb)
      | (go_at_call 16; refine (CD.out _).mono ?_; rintro e X ⟨rfl, hb⟩; have HX1 := Lib.hid (HX0.out.trans (hb.mono HX0.out.size)); clear hb)
      | (go_at_call 15; refine (CC.out _).mono ?_; rintro e X ⟨rfl, hb⟩; have HX0 : Hid (Below V4.heap.size V4 X) := Lib.hid (below_over hb rfl rfl rfl rfl); clear hb)
      | (go_at_call 16; refine (CD.out _).mono ?_; rintro e X ⟨rfl, hb⟩; have HX0 : Hid (Below V4.heap.size V4 X) := Lib.hid (below_over hb rfl rfl rfl rfl); clear hb))
  all_goals
    go_wp2_with fail
    go_ret
    exact ⟨rfl, HB4.out.trans (HX2.out.mono HB4.out.size)⟩
theorem posixStrings_walk (s : ByteArray) (hs : s.size ≤ maxLen) (p : Pos) (ha : p.std.size ≤ maxLen) (hc : p.dst.size ≤ maxLen) (W : World) (hE : EnvAt W) :
    Calls Tryz.prog 3 #[.string s, p.val] W fun e w' => e = .returned (.bool true) ∧ Below W.heap.size W w' := by
  obtain ⟨a, b, c, d, ⟨k1, d1, m1, w1, s1⟩, ⟨k2, d2, m2, w2, s2⟩⟩ := p
  dsimp only at ha hc
  unfold maxLen at hs ha hc
  by_cases hbig : 200 < s.size ∨ 50 < a.size ∨ 50 < c.size
  · exact posixStrings_big s a c b d k1 d1 m1 w1 s1 k2 d2 m2 w2 s2 hs ha hc hbig W hE
  · have e : bs s.data.toList = s := by unfold bs; cases s; rfl
    have hl : s.data.toList.length = s.size := by rw [← bs_size, e]
    have h := posixStrings_cells s.data.toList a c b d k1 d1 m1 w1 s1 k2 d2 m2 w2 s2 (by omega) (by omega) (by omega) W hE
    rw [e] at h
    exact h
end Go.Proofs.YtgllbagmmpicaaaGreatDoor.Px
namespace Go.Proofs.YtgllbagmmpicaaaGreatDoor
open Go.ChangeShapes Go.WideShapes Go.ChangeAt Go.RowKit
open Go.ChangeMaps (open_string)

namespace posixStrings
theorem own : ownKnob Tryz.prog.godebug = none := by kernel_rfl
set_option maxRecDepth 100000 in
theorem lifted (os : Os) (started : os.Started) (H : Type) (enc : TypeId × Value → H) :
    ReturnsInHanded {} Tryz.checked os 3 .any (fun w args => (Rows.posixStringsSpec.pre enc Tryz.prog Tryz.f3 Rows.posixStringsRow.domain false w args ∧ laidMetH Tryz.prog Rows.posixStringsRow.laid w) ∧ sizedMet enc Tryz.prog Tryz.f3 (OpenSpec.ofChange Rows.posixStringsSpec) false w args)
      (Rows.posixStringsSpec.post enc Tryz.prog Tryz.f3 false true false false) := by
  refine returnsInHanded_of_change_and (C := Tryz.checked) (X := fun w _ => laidMetH Tryz.prog Rows.posixStringsRow.laid w) (fun _ _ _ hh h => h.of_heap hh) own started (by kernel_rfl) Tryz.func3
    (ChangeSpec.witness_shaped (enc := enc) (C := Tryz.checked) (os := os) (X := fun w _ => laidMetH Tryz.prog Rows.posixStringsRow.laid w) false ((World.doorLaid Tryz.prog 4000 os).layVars Tryz.prog [("unicode/utf8.first", Rows.laid_unicode_utf8_first)]) #[.string ByteArray.empty, .agg #[.string ByteArray.empty, .int .i64 0, .string ByteArray.empty, .int .i64 0, .int .i64 0, .int .i64 0, .int .i64 0, .int .i64 0, .int .i64 0, .int .i64 0, .int .i64 0, .int .i64 0, .int .i64 0, .int .i64 0]] 8 (door_os os)
      (World.shaped_of_ZipB (by kernel_rfl) (by kernel_rfl)) (by kernel_rfl) (by kernel_rfl) (by kernel_rfl) (door_met os _)) ?_
  intro W base args ds gs before hval0 hW _ _ hL _
  have hval : ∀ (j : Nat) t v, Tryz.f3.params[j]? = some t → args[j]? = some v → Value.okWide Tryz.prog W .any base t v := hval0
  have hEnv : Px.EnvAt W := Px.env_of hL
  have hW' := hW
  obtain ⟨p, q, hA0, hV, rfl, _, _⟩ := hW
  have hA : DataW.TrodAll enc Tryz.prog W 0 (fun _ => true) true Tryz.f3.params.toList args.toList ds p := hA0
  rw [Tryz.params3] at hA hval
  obtain ⟨v0, vs0, d0, ds0, p0, q0, hargs, rfl, rfl, h0, r0⟩ := trodAll_cons hA
  obtain ⟨v1, vs1, d1, ds1, p1, q1, rfl, rfl, rfl, h1, r1⟩ := trodAll_cons r0
  obtain ⟨rfl, rfl, rfl⟩ := trodAll_nil r1
  obtain rfl : args = #[v0, v1] := by cases args; simp_all
  obtain ⟨rfl, rfl⟩ := trodVars_none hV
  obtain ⟨s0, rfl, rfl, rfl, hs0⟩ := open_string Tryz.underlying9 (hval 0 9 v0 rfl rfl) h0
  obtain ⟨t1, rfl, hz1, hy1⟩ := Px.open_pos (hval 1 25 v1 rfl rfl) h1
  refine (Px.posixStrings_walk s0 hs0 t1 hz1 hy1 W hEnv).mono fun e W' ⟨he, hB⟩ => ?_
  subst he
  refine ⟨_, rfl, post_law (by kernel_rfl) ?_ rfl hW' rfl rfl Tryz.underlying4 hB⟩
  rw [Tryz.params3]
  intro t ht
  have hall : ([9, 25].all fun u => Tryz.prog.readableRec u && decide (u < Tryz.prog.types.size)) = true := by kernel_rfl
  have h1 := List.all_eq_true.1 hall t ht
  have h2 : Tryz.prog.readableRec t = true ∧ t < Tryz.prog.types.size := by simpa using h1
  exact h2
theorem said : Rows.PosixStringsSaid :=
  OpenClaim.holds_of_wide 3 Tryz.f3 rfl rfl rfl rfl rfl rfl rfl ⟨rfl, rfl, rfl, rfl, rfl⟩ rfl rfl rfl rfl rfl (by kernel_rfl) Tryz.func3 (by kernel_rfl)
    (of_decide_eq_true (by kernel_rfl)) (by unfold Func.isWrapper; first | (rw [if_pos (by decide +kernel)]; kernel_rfl) | (rw [if_neg (by decide +kernel)]; exact ⟨rfl, rfl⟩))
    (fun os started H enc _ => lifted os started H enc)
theorem plain (f : FuncId) (fn : Func) (hf : Tryz.pinned.checked.prog.funcNamed "analemma/analemmalaw37.PosixStrings" = some f) (hfn : Tryz.pinned.checked.prog.funcs[f]? = some fn) :
    true = Tryz.pinned.checked.prog.looks [] ∧ ∀ (j : Nat) t, fn.params[j]? = some t → Tryz.pinned.checked.prog.wantsStandIn t = false := by
  obtain rfl : f = 3 := Option.some.inj ((show Tryz.prog.funcNamed "analemma/analemmalaw37.PosixStrings" = some 3 by kernel_rfl).symm.trans hf) |>.symm
  obtain rfl : fn = Tryz.f3 := (Option.some.inj (Tryz.func3.symm.trans hfn)).symm
  refine ⟨by kernel_rfl, fun j t ht => ?_⟩
  rw [Tryz.params3] at ht
  have hm : t ∈ [9, 25] := by simpa using Array.mem_of_getElem? ht
  have hall : ([9, 25].all fun u => !Tryz.prog.wantsStandIn u) = true := by kernel_rfl
  exact (show Tryz.prog.wantsStandIn t = false by simpa using List.all_eq_true.1 hall t hm)
theorem card : Rows.PosixStringsCardSaid :=
  Claim7.holds_tied_plain_at .later [] _ _ _ _ said (fun _ h => by cases h) (by kernel_rfl) (fun _ h => by cases h) posixStrings_row_tie rfl ⟨rfl, rfl⟩ (by kernel_rfl) rfl plain (by kernel_rfl)
end posixStrings
#print axioms posixStrings.card
end Go.Proofs.YtgllbagmmpicaaaGreatDoor
