/- The functions of packages civil, dayform, analemmaref01 and analemmaref02 that layers above call, continued: years of instants, days of dates, weekdays, days of months. -/
import Derived.Test.YtgllbagmmpicaaaGreatDoorCivW
import Derived.Deep.RegionWith
import Derived.Below
namespace Go.Proofs.YtgllbagmmpicaaaGreatDoor.Civ
open Go.RowKit

/-- the year of an instant -/
def yearT (t : Int) : Int := if yearOf (t / 86400) < -2000000000 then -2000000000 else if 2000000000 < yearOf (t / 86400) then 2000000000 else yearOf (t / 86400)
theorem yearOf_bd {d : Int} (h0 : -1000000000000000 ≤ d) (h1 : d ≤ 1000000000000000) : -3000000000000 ≤ yearOf d ∧ yearOf d ≤ 3000000000000 := by
  obtain ⟨a, b⟩ := yearOf_ok d
  unfold jan at a b
  omega
set_option maxHeartbeats 2000000 in
theorem ref_year (d : Int) (h0 : -1000000000000000 ≤ d) (h1 : d ≤ 1000000000000000) (w : World) :
    Calls Tryz.prog 81 #[.int .i64 d] w fun e w' => (∃ r : Int, e = .returned (.tuple #[.int .i64 (yearOf d), .int .i64 r])) ∧ w = w' := by
  have C := Lib.hid (floor_any d 146097 (by omega) (by omega) (by decide))
  obtain ⟨c, hc⟩ : ∃ c, d / 146097 = c := ⟨_, rfl⟩
  have c0 : 0 ≤ d - c * 146097 := by omega
  have c3 : d - c * 146097 ≤ 146096 := by omega
  have c1 : -10000000000 ≤ c := by omega
  have c2 : c ≤ 10000000000 := by omega
  rw [hc] at C
  clear hc
  go_enter Tryz.func81, Tryz.ntmps81
  go_wp2_with fail
  refine (C.out _).mono ?_
  rintro e w' ⟨rfl, rfl⟩
  go_wp2_with fail
  go_loop [5, 6] (fun r i => ∃ k s : Int, c * 400 ≤ k ∧ k ≤ c * 400 + 865625 ∧ 0 ≤ s ∧ s ≤ 865625 - (k - c * 400) ∧ jan k + s = d ∧ i = .int .i64 k ∧ r = .int .i64 s) (fun r _ => (intOf r).toNat)
  case atStart => exact ⟨c * 400, d - c * 146097 + 719528, by omega, by omega, by omega, by omega, by rw [jan_cycle]; omega, rfl, rfl⟩
  case round =>
    obtain ⟨k, s, k0, k1, s0, s1, hj, rfl, rfl⟩ := hrel
    have HJ := Lib.hid hj
    obtain ⟨z0, z1⟩ := size_ge k
    have CS := Lib.hid (ref_size k)
    clear hj
    by_cases hlt : sizeI k ≤ s
    · go_wp2_with fail
      refine (CS.out _).mono ?_
      rintro e w' ⟨rfl, rfl⟩
      go_wp2_with fail
      refine (CS.out _).mono ?_
      rintro e w' ⟨rfl, rfl⟩
      go_wp2_with fail
      go_round
      case rel => exact ⟨k + 1, s - sizeI k, by omega, by omega, by omega, by omega, by rw [jan_succ]; have := HJ.out; omega, rfl, rfl⟩
      case measure => simp [intOf]; omega
    · have hy : yearOf d = k := yearOf_eq (by have := HJ.out; omega) (by rw [jan_succ]; have := HJ.out; omega)
      have HY := Lib.hid hy
      clear hy
      go_wp2_with fail
      refine (CS.out _).mono ?_
      rintro e w' ⟨rfl, rfl⟩
      go_wp2_with fail
      go_ret2
      exact ⟨⟨s, ret2 HY.out.symm rfl⟩, rfl⟩
set_option maxHeartbeats 2000000 in
theorem ref_Year (t : Int) (h0 : -9223372036854775808 ≤ t) (h1 : t ≤ 9223372036854775807) (h2 : -4611686018427387904 ≤ t) (h3 : t ≤ 4611686018427387904) (w : World) :
    Calls Tryz.prog 48 #[.int .i64 t] w fun e w' => e = .returned (.int .i64 (yearT t)) ∧ w = w' := by
  have C := Lib.hid (floor_any t 86400 h2 h3 (by decide))
  have CY := Lib.hid (ref_year (t / 86400) (by omega) (by omega))
  obtain ⟨y0, y1⟩ := yearOf_bd (d := t / 86400) (by omega) (by omega)
  unfold yearT
  obtain ⟨d, hd⟩ : ∃ d, t / 86400 = d := ⟨_, rfl⟩
  rw [hd] at C CY y0 y1 ⊢
  clear hd
  obtain ⟨y, hy⟩ : ∃ y, yearOf d = y := ⟨_, rfl⟩
  rw [hy] at CY y0 y1 ⊢
  clear hy
  by_cases a : y < -2000000000
  · rw [if_pos a]
    go_enter Tryz.func48, Tryz.ntmps48
    go_wp2_with fail
    refine (C.out _).mono ?_
    rintro e w' ⟨rfl, rfl⟩
    go_wp2_with fail
    refine (CY.out _).mono ?_
    rintro e w' ⟨⟨r, rfl⟩, rfl⟩
    go_wp2_with fail
    go_ret
    exact ⟨rfl, rfl⟩
  · rw [if_neg a]
    by_cases b : 2000000000 < y
    · rw [if_pos b]
      go_enter Tryz.func48, Tryz.ntmps48
      go_wp2_with fail
      refine (C.out _).mono ?_
      rintro e w' ⟨rfl, rfl⟩
      go_wp2_with fail
      refine (CY.out _).mono ?_
      rintro e w' ⟨⟨r, rfl⟩, rfl⟩
      go_wp2_with fail
      go_ret
      exact ⟨rfl, rfl⟩
    · rw [if_neg b]
      go_enter Tryz.func48, Tryz.ntmps48
      go_wp2_with fail
      refine (C.out _).mono ?_
      rintro e w' ⟨rfl, rfl⟩
      go_wp2_with fail
      refine (CY.out _).mono ?_
      rintro e w' ⟨⟨r, rfl⟩, rfl⟩
      go_wp2_with fail
      go_ret
      exact ⟨rfl, rfl⟩

/-- the variable civil.before, as its initialiser lays it -/
def BeforeAt (w : World) : Prop := ∀ i : Nat, i < 12 → w.cell? ⟨0, i, none⟩ = some (.int .i64 (before i))
theorem BeforeAt.row {w : World} (h : BeforeAt w) : w.cell? ⟨0, 0, none⟩ = some (.int .i64 0) ∧ w.cell? ⟨0, 1, none⟩ = some (.int .i64 31) ∧ w.cell? ⟨0, 2, none⟩ = some (.int .i64 61) ∧ w.cell? ⟨0, 3, none⟩ = some (.int .i64 92) ∧
    w.cell? ⟨0, 4, none⟩ = some (.int .i64 122) ∧ w.cell? ⟨0, 5, none⟩ = some (.int .i64 153) ∧ w.cell? ⟨0, 6, none⟩ = some (.int .i64 184) ∧ w.cell? ⟨0, 7, none⟩ = some (.int .i64 214) ∧
    w.cell? ⟨0, 8, none⟩ = some (.int .i64 245) ∧ w.cell? ⟨0, 9, none⟩ = some (.int .i64 275) ∧ w.cell? ⟨0, 10, none⟩ = some (.int .i64 306) ∧ w.cell? ⟨0, 11, none⟩ = some (.int .i64 337) :=
  ⟨h 0 (by decide), h 1 (by decide), h 2 (by decide), h 3 (by decide), h 4 (by decide), h 5 (by decide), h 6 (by decide), h 7 (by decide), h 8 (by decide), h 9 (by decide), h 10 (by decide), h 11 (by decide)⟩
theorem BeforeAt.keep {w w' : World} (h : BeforeAt w) (hB : Below w.heap.size w w') : BeforeAt w' := fun i hi => (hB.cell (p := ⟨0, i, none⟩) (block_lt_of_cell (h i hi))).trans (h i hi)
theorem below_drewN {B : Nat} {a w : World} (h : Below B a w) (n : Nat) : Below B a (w.drewN n) := ⟨h.os, h.tape, h.output, h.size, h.block⟩
set_option maxHeartbeats 4000000 in
theorem days_any (y m d : Int) (h0 : -2000000000 ≤ y) (h1 : y ≤ 2000000000) (m0 : 1 ≤ m) (m1 : m ≤ 12) (d0 : 1 ≤ d) (d1 : d ≤ mlen y m) (w : World) (hB : BeforeAt w) :
    Calls Tryz.prog 54 #[.int .i64 y, .int .i64 m, .int .i64 d] w fun e w' => e = .returned (.tuple #[.int .i64 (dayOf y m d), .int .i64 0]) ∧ ∃ n, w' = w.drewN n := by
  have CI := Lib.hid (in_any y true (decide_eq_true ⟨h0, h1⟩))
  have CL := Lib.hid (len_any y m m0 m1)
  have hu := (cum_top y m m0 m1).2.2.2
  have hd : ¬ mlen y m < d := by omega
  have hd2 : ¬ d < 1 := by omega
  have hd3 : d ≤ 31 := by omega
  obtain ⟨b0, b1, b2, b3, b4, b5, b6, b7, b8, b9, b10, b11⟩ := hB.row
  clear hB
  by_cases hm : m < 3
  · have CS := Lib.hid (split_any (y - 1) 400 (by omega) (by omega) (by decide) (by decide))
    have HD := Lib.hid (dayOf_early y m d m0 (by omega))
    have q0 : -5000001 ≤ (y - 1) / 400 := by omega
    have q1 : (y - 1) / 400 ≤ 5000001 := by omega
    have q2 : 0 ≤ (y - 1) % 400 := by omega
    have q3 : (y - 1) % 400 ≤ 399 := by omega
    obtain ⟨q, hq⟩ : ∃ q, (y - 1) / 400 = q := ⟨_, rfl⟩
    obtain ⟨r, hr⟩ : ∃ r, (y - 1) % 400 = r := ⟨_, rfl⟩
    rw [hq] at CS HD q0 q1
    rw [hr] at CS HD q2 q3
    clear hq hr
    obtain rfl | rfl : m = 1 ∨ m = 2 := by omega
    all_goals
      clear m0 m1 hm
      go_enter Tryz.func54, Tryz.ntmps54
      go_wp2_with fail
      refine (CI.out _).mono ?_
      rintro e w' ⟨rfl, rfl⟩
      go_wp2_with fail
      refine (CL.out _).mono ?_
      rintro e w' ⟨rfl, rfl⟩
      go_wp2_with fail
      refine (CS.out _).mono ?_
      rintro e w' ⟨rfl, n, rfl⟩
      go_wp2_with fail
      go_ret2
      exact ⟨ret2 (by rw [HD.out]; unfold before; omega) rfl, n, rfl⟩
  · have CS := Lib.hid (split_any y 400 (by omega) (by omega) (by decide) (by decide))
    have HD := Lib.hid (dayOf_march y m d (by omega) (by omega))
    have q0 : -5000001 ≤ y / 400 := by omega
    have q1 : y / 400 ≤ 5000001 := by omega
    have q2 : 0 ≤ y % 400 := by omega
    have q3 : y % 400 ≤ 399 := by omega
    obtain ⟨q, hq⟩ : ∃ q, y / 400 = q := ⟨_, rfl⟩
    obtain ⟨r, hr⟩ : ∃ r, y % 400 = r := ⟨_, rfl⟩
    rw [hq] at CS HD q0 q1
    rw [hr] at CS HD q2 q3
    clear hq hr
    obtain rfl | rfl | rfl | rfl | rfl | rfl | rfl | rfl | rfl | rfl : m = 3 ∨ m = 4 ∨ m = 5 ∨ m = 6 ∨ m = 7 ∨ m = 8 ∨ m = 9 ∨ m = 10 ∨ m = 11 ∨ m = 12 := by omega
    all_goals
      clear m0 m1 hm
      go_enter Tryz.func54, Tryz.ntmps54
      go_wp2_with fail
      refine (CI.out _).mono ?_
      rintro e w' ⟨rfl, rfl⟩
      go_wp2_with fail
      refine (CL.out _).mono ?_
      rintro e w' ⟨rfl, rfl⟩
      go_wp2_with fail
      refine (CS.out _).mono ?_
      rintro e w' ⟨rfl, n, rfl⟩
      go_wp2_with fail
      go_ret2
      exact ⟨ret2 (by rw [HD.out]; unfold before; omega) rfl, n, rfl⟩
end Go.Proofs.YtgllbagmmpicaaaGreatDoor.Civ
