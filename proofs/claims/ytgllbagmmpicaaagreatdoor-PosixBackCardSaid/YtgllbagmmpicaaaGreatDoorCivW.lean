/- The functions of packages civil and analemmaref01 that layers above call: what they return. -/
import Derived.Test.YtgllbagmmpicaaaGreatDoorProg
import Derived.Test.YtgllbagmmpicaaaGreatDoorCiv
import Derived.WalkKit
import Derived.WalkSpells
import Derived.WalkLawsBesides
import Derived.Lib.Hide
import Derived.Deep.QuietTactic
import Derived.BigQuiet
import Derived.Outline
namespace Go.Proofs.YtgllbagmmpicaaaGreatDoor.Civ
open Go.RowKit

theorem tmod_zero (y k : Int) : (y.tmod k = 0) ↔ y % k = 0 := by
  rw [← Int.dvd_iff_tmod_eq_zero, ← Int.dvd_iff_emod_eq_zero]
theorem quo_parts (a b : Int) (hb : 0 < b) : ∃ x r : Int, a.tdiv b = x ∧ a.tmod b = r ∧ -b < r ∧ r < b ∧ (x ≤ a ∨ x ≤ 0) ∧ (a ≤ x ∨ 0 ≤ x) ∧ (r < 0 → a / b = x - 1 ∧ a % b = r + b) ∧ (0 ≤ r → a / b = x ∧ a % b = r) := by
  have e := Int.mul_tdiv_add_tmod a b
  have h1 := Int.tmod_lt_of_pos a hb
  have h2 : -b < a.tmod b := by
    have := Int.tmod_lt_of_pos (-a) hb
    rw [Int.neg_tmod] at this
    omega
  refine ⟨_, _, rfl, rfl, h2, h1, ?_, ?_, fun h => ?_, fun h => ?_⟩
  · by_cases ha : 0 ≤ a
    · left
      rw [Int.tdiv_eq_ediv_of_nonneg ha]
      exact Int.ediv_le_self b ha
    · right
      have := Int.tdiv_nonneg (show 0 ≤ -a by omega) (show 0 ≤ b by omega)
      rw [Int.neg_tdiv] at this
      omega
  · by_cases ha : 0 ≤ a
    · right
      exact Int.tdiv_nonneg ha (by omega)
    · left
      have h3 : (-a).tdiv b ≤ -a := by
        rw [Int.tdiv_eq_ediv_of_nonneg (by omega)]
        exact Int.ediv_le_self b (by omega)
      rw [Int.neg_tdiv] at h3
      omega
  · refine (Int.ediv_emod_unique hb).2 ⟨?_, by omega, by omega⟩
    rw [Int.mul_sub]; omega
  · exact (Int.ediv_emod_unique hb).2 ⟨by omega, h, h1⟩

set_option maxHeartbeats 1000000 in
theorem ref_leap (y : Int) (w : World) :
    Calls Tryz.prog 84 #[.int .i64 y] w fun e w' => e = .returned (.bool (leapB y)) ∧ w = w' := by
  have hl : leapB y = (decide (y % 4 = 0) && (!decide (y % 100 = 0) || decide (y % 400 = 0))) := rfl
  rw [hl]
  obtain ⟨b4, h4⟩ : ∃ b, decide (y % 4 = 0) = b := ⟨_, rfl⟩
  obtain ⟨b100, h100⟩ : ∃ b, decide (y % 100 = 0) = b := ⟨_, rfl⟩
  obtain ⟨b400, h400⟩ : ∃ b, decide (y % 400 = 0) = b := ⟨_, rfl⟩
  have t4 : (y.tmod 4 == 0) = b4 := by rw [← h4, Bool.eq_iff_iff, beq_iff_eq, decide_eq_true_iff]; exact tmod_zero y 4
  have t100 : (y.tmod 100 != 0) = !b100 := by rw [← h100, Bool.eq_iff_iff, bne_iff_ne, Bool.not_eq_true', decide_eq_false_iff_not]; exact not_congr (tmod_zero y 100)
  have t400 : (y.tmod 400 == 0) = b400 := by rw [← h400, Bool.eq_iff_iff, beq_iff_eq, decide_eq_true_iff]; exact tmod_zero y 400
  have hc : b400 = true → b4 = true := by rw [← h4, ← h400, decide_eq_true_iff, decide_eq_true_iff]; omega
  rw [h4, h100, h400]
  clear h4 h100 h400 hl
  have HC := Lib.hid hc
  clear hc
  cases b4 <;> cases b100 <;> cases b400
  all_goals first | exact absurd (HC.out rfl) (by decide) | skip
  all_goals
    simp only [Bool.not_true, Bool.not_false] at t100
    go_enter Tryz.func84, Tryz.ntmps84
    go_wp2_with fail
    go_ret
    exact ⟨rfl, rfl⟩
set_option maxHeartbeats 1000000 in
theorem leap_any (y : Int) (w : World) :
    Calls Tryz.prog 55 #[.int .i64 y] w fun e w' => e = .returned (.bool (leapB y)) ∧ w = w' := by
  have hl : leapB y = (decide (y % 4 = 0) && (!decide (y % 100 = 0) || decide (y % 400 = 0))) := rfl
  rw [hl]
  obtain ⟨b4, h4⟩ : ∃ b, decide (y % 4 = 0) = b := ⟨_, rfl⟩
  obtain ⟨b100, h100⟩ : ∃ b, decide (y % 100 = 0) = b := ⟨_, rfl⟩
  obtain ⟨b400, h400⟩ : ∃ b, decide (y % 400 = 0) = b := ⟨_, rfl⟩
  have t4 : (y.tmod 4 == 0) = b4 := by rw [← h4, Bool.eq_iff_iff, beq_iff_eq, decide_eq_true_iff]; exact tmod_zero y 4
  have t100 : (y.tmod 100 != 0) = !b100 := by rw [← h100, Bool.eq_iff_iff, bne_iff_ne, Bool.not_eq_true', decide_eq_false_iff_not]; exact not_congr (tmod_zero y 100)
  have t400 : (y.tmod 400 == 0) = b400 := by rw [← h400, Bool.eq_iff_iff, beq_iff_eq, decide_eq_true_iff]; exact tmod_zero y 400
  rw [h4, h100, h400]
  clear h4 h100 h400 hl
  cases b4 <;> cases b100 <;> cases b400
  all_goals
    simp only [Bool.not_true, Bool.not_false] at t100
    go_enter Tryz.func55, Tryz.ntmps55
    go_wp2_with fail
    go_ret
    exact ⟨rfl, rfl⟩
set_option maxHeartbeats 1000000 in
theorem floor_any (a b : Int) (h0 : -4611686018427387904 ≤ a) (h1 : a ≤ 4611686018427387904) (hb : 0 < b) (w : World) :
    Calls Tryz.prog 82 #[.int .i64 a, .int .i64 b] w fun e w' => e = .returned (.int .i64 (a / b)) ∧ w = w' := by
  obtain ⟨x, r, hx, hr, r1, r2, x1, x2, hn, hp⟩ := quo_parts a b hb
  have hb0 : (b == 0) = false := by rw [beq_eq_false_iff_ne]; omega
  have hxl : -4611686018427387904 ≤ x := by omega
  have hxu : x ≤ 4611686018427387904 := by omega
  by_cases h : r < 0
  · rw [(hn h).1]
    clear hn hp x1 x2
    go_enter Tryz.func82, Tryz.ntmps82
    go_wp2_with fail
    go_ret
    exact ⟨rfl, rfl⟩
  · rw [(hp (by omega)).1]
    clear hn hp x1 x2
    go_enter Tryz.func82, Tryz.ntmps82
    go_wp2_with fail
    go_ret
    exact ⟨rfl, rfl⟩
set_option maxHeartbeats 1000000 in
theorem split_any (a b : Int) (h0 : -4611686018427387904 ≤ a) (h1 : a ≤ 4611686018427387904) (hb : 0 < b) (hb1 : b ≤ 1000000) (w : World) :
    Calls Tryz.prog 79 #[.int .i64 a, .int .i64 b] w fun e w' => e = .returned (.tuple #[.int .i64 (a / b), .int .i64 (a % b)]) ∧ ∃ n, w' = w.drewN n := by
  obtain ⟨x, r, hx, hr, r1, r2, x1, x2, hn, hp⟩ := quo_parts a b hb
  have hb0 : (b == 0) = false := by rw [beq_eq_false_iff_ne]; omega
  have hxl : -4611686018427387904 ≤ x := by omega
  have hxu : x ≤ 4611686018427387904 := by omega
  by_cases h : r < 0
  · rw [(hn h).1, (hn h).2]
    clear hn hp x1 x2
    go_enter Tryz.func79, Tryz.ntmps79
    go_wp2_with fail
    go_quiet (fail)
    go_wp2_with fail
    go_ret2
    exact ⟨rfl, nq, rfl⟩
  · rw [(hp (by omega)).1, (hp (by omega)).2]
    clear hn hp x1 x2
    go_enter Tryz.func79, Tryz.ntmps79
    go_wp2_with fail
    go_quiet (fail)
    go_wp2_with fail
    go_ret2
    exact ⟨rfl, nq, rfl⟩

theorem ret1 {k : IntKind} {a b : Int} (h : a = b) : Ending.returned (.int k a) = .returned (.int k b) := by rw [h]
theorem ret2 {k l : IntKind} {a b c d : Int} (h : a = b) (h' : c = d) : Ending.returned (.tuple #[.int k a, .int l c]) = .returned (.tuple #[.int k b, .int l d]) := by rw [h, h']
theorem ref_size (y : Int) (w : World) :
    Calls Tryz.prog 111 #[.int .i64 y] w fun e w' => e = .returned (.int .i64 (sizeI y)) ∧ w = w' := by
  unfold sizeI
  have C := Lib.hid (ref_leap y)
  obtain ⟨b, hb⟩ : ∃ b, leapB y = b := ⟨_, rfl⟩
  rw [hb] at C ⊢
  clear hb
  go_enter Tryz.func111, Tryz.ntmps111
  go_wp2_with fail
  refine (C.out _).mono ?_
  rintro e w' ⟨rfl, rfl⟩
  cases b
  · go_wp2
    go_ret
    exact ⟨rfl, rfl⟩
  · go_wp2
    go_ret
    exact ⟨rfl, rfl⟩
theorem ref_in (y : Int) (b : Bool) (hb : decide (-2000000000 ≤ y ∧ y ≤ 2000000000) = b) (w : World) :
    Calls Tryz.prog 112 #[.int .i64 y] w fun e w' => e = .returned (.bool b) ∧ w = w' := by
  by_cases h1 : -2000000000 ≤ y
  · by_cases h2 : y ≤ 2000000000
    · obtain rfl : b = true := by rw [← hb]; exact decide_eq_true ⟨h1, h2⟩
      clear hb
      go_enter Tryz.func112, Tryz.ntmps112
      go_wp2_with fail
      go_ret
      exact ⟨rfl, rfl⟩
    · obtain rfl : b = false := by rw [← hb]; exact decide_eq_false (fun h => h2 h.2)
      clear hb
      go_enter Tryz.func112, Tryz.ntmps112
      go_wp2_with fail
      go_ret
      exact ⟨rfl, rfl⟩
  · obtain rfl : b = false := by rw [← hb]; exact decide_eq_false (fun h => h1 h.1)
    clear hb
    go_enter Tryz.func112, Tryz.ntmps112
    go_wp2_with fail
    go_ret
    exact ⟨rfl, rfl⟩
theorem in_any (y : Int) (b : Bool) (hb : decide (-2000000000 ≤ y ∧ y ≤ 2000000000) = b) (w : World) :
    Calls Tryz.prog 86 #[.int .i64 y] w fun e w' => e = .returned (.bool b) ∧ w = w' := by
  by_cases h1 : -2000000000 ≤ y
  · by_cases h2 : y ≤ 2000000000
    · obtain rfl : b = true := by rw [← hb]; exact decide_eq_true ⟨h1, h2⟩
      clear hb
      go_enter Tryz.func86, Tryz.ntmps86
      go_wp2_with fail
      go_ret
      exact ⟨rfl, rfl⟩
    · obtain rfl : b = false := by rw [← hb]; exact decide_eq_false (fun h => h2 h.2)
      clear hb
      go_enter Tryz.func86, Tryz.ntmps86
      go_wp2_with fail
      go_ret
      exact ⟨rfl, rfl⟩
  · obtain rfl : b = false := by rw [← hb]; exact decide_eq_false (fun h => h1 h.1)
    clear hb
    go_enter Tryz.func86, Tryz.ntmps86
    go_wp2_with fail
    go_ret
    exact ⟨rfl, rfl⟩
set_option maxHeartbeats 2000000 in
theorem ref_len (y m : Int) (h1 : 1 ≤ m) (h2 : m ≤ 12) (w : World) :
    Calls Tryz.prog 113 #[.int .i64 y, .int .i64 m] w fun e w' => e = .returned (.int .i64 (mlen y m)) ∧ w = w' := by
  have C := Lib.hid (ref_leap y)
  have h : m = 2 ∨ m ≠ 2 := by omega
  rcases h with rfl | hm
  · have hl : mlen y 2 = if leapB y then 29 else 28 := rfl
    rw [hl]
    obtain ⟨b, hb⟩ : ∃ b, leapB y = b := ⟨_, rfl⟩
    rw [hb] at C ⊢
    clear hb hl h1 h2
    go_enter Tryz.func113, Tryz.ntmps113
    go_wp2_with fail
    refine (C.out _).mono ?_
    rintro e w' ⟨rfl, rfl⟩
    cases b
    · go_wp2
      go_ret
      exact ⟨rfl, rfl⟩
    · go_wp2
      go_ret
      exact ⟨rfl, rfl⟩
  · clear C
    obtain rfl | rfl | rfl | rfl | rfl | rfl | rfl | rfl | rfl | rfl | rfl : m = 1 ∨ m = 3 ∨ m = 4 ∨ m = 5 ∨ m = 6 ∨ m = 7 ∨ m = 8 ∨ m = 9 ∨ m = 10 ∨ m = 11 ∨ m = 12 := by omega
    all_goals
      clear h1 h2 hm
      go_enter Tryz.func113, Tryz.ntmps113
      go_wp2_with fail
      go_ret
      exact ⟨rfl, rfl⟩
set_option maxHeartbeats 2000000 in
theorem len_any (y m : Int) (h1 : 1 ≤ m) (h2 : m ≤ 12) (w : World) :
    Calls Tryz.prog 87 #[.int .i64 y, .int .i64 m] w fun e w' => e = .returned (.int .i64 (mlen y m)) ∧ w = w' := by
  have C := Lib.hid (leap_any y)
  have h : m = 2 ∨ m ≠ 2 := by omega
  rcases h with rfl | hm
  · have hl : mlen y 2 = if leapB y then 29 else 28 := rfl
    rw [hl]
    obtain ⟨b, hb⟩ : ∃ b, leapB y = b := ⟨_, rfl⟩
    rw [hb] at C ⊢
    clear hb hl h1 h2
    go_enter Tryz.func87, Tryz.ntmps87
    go_wp2_with fail
    refine (C.out _).mono ?_
    rintro e w' ⟨rfl, rfl⟩
    cases b
    · go_wp2
      go_ret
      exact ⟨rfl, rfl⟩
    · go_wp2
      go_ret
      exact ⟨rfl, rfl⟩
  · clear C
    obtain rfl | rfl | rfl | rfl | rfl | rfl | rfl | rfl | rfl | rfl | rfl : m = 1 ∨ m = 3 ∨ m = 4 ∨ m = 5 ∨ m = 6 ∨ m = 7 ∨ m = 8 ∨ m = 9 ∨ m = 10 ∨ m = 11 ∨ m = 12 := by omega
    all_goals
      clear h1 h2 hm
      go_enter Tryz.func87, Tryz.ntmps87
      go_wp2_with fail
      go_ret
      exact ⟨rfl, rfl⟩
theorem jan_bd {y : Int} (h0 : -3000000000 ≤ y) (h1 : y ≤ 3000000000) : -2000000000000 ≤ jan y ∧ jan y ≤ 2000000000000 := by unfold jan; omega
theorem jan_cycle (c : Int) : jan (c * 400) = c * 146097 - 719528 := by unfold jan; omega
set_option maxHeartbeats 2000000 in
theorem ref_first (y : Int) (h0 : -2000000000 ≤ y) (h1 : y ≤ 2000000000) (w : World) :
    Calls Tryz.prog 114 #[.int .i64 y] w fun e w' => e = .returned (.int .i64 (jan y)) ∧ w = w' := by
  have C := Lib.hid (floor_any y 400 (by omega) (by omega) (by decide))
  obtain ⟨c, hc⟩ : ∃ c, y / 400 = c := ⟨_, rfl⟩
  have c0 : c * 400 ≤ y := by omega
  have c1 : -5000001 ≤ c := by omega
  have c2 : c ≤ 5000000 := by omega
  rw [hc] at C
  clear hc
  go_enter Tryz.func114, Tryz.ntmps114
  go_wp2_with fail
  refine (C.out _).mono ?_
  rintro e w' ⟨rfl, rfl⟩
  go_wp2_with fail
  go_loop [4, 5] (fun d i => ∃ k : Int, c * 400 ≤ k ∧ k ≤ y ∧ i = .int .i64 k ∧ d = .int .i64 (jan k)) (fun _ i => (y - intOf i).toNat)
  case atStart => exact ⟨c * 400, by omega, c0, rfl, by rw [jan_cycle]⟩
  case round =>
    obtain ⟨k, k0, k1, rfl, rfl⟩ := hrel
    obtain ⟨j0, j1⟩ := jan_bd (y := k) (by omega) (by omega)
    obtain ⟨s0, s1⟩ := size_ge k
    have CS := Lib.hid (ref_size k)
    by_cases hlt : k < y
    · go_wp2_with fail
      refine (CS.out _).mono ?_
      rintro e w' ⟨rfl, rfl⟩
      go_wp2_with fail
      go_round
      case rel => exact ⟨k + 1, by omega, by omega, rfl, by rw [jan_succ]⟩
      case measure => simp [intOf]; omega
    · obtain rfl : k = y := by omega
      go_wp2_with fail
      go_ret
      exact ⟨rfl, rfl⟩
set_option maxHeartbeats 2000000 in
theorem ref_days (y m d : Int) (h0 : -2000000000 ≤ y) (h1 : y ≤ 2000000000) (m0 : 1 ≤ m) (m1 : m ≤ 12) (d0 : 1 ≤ d) (d1 : d ≤ mlen y m) (w : World) :
    Calls Tryz.prog 83 #[.int .i64 y, .int .i64 m, .int .i64 d] w fun e w' => e = .returned (.tuple #[.int .i64 (dayOf y m d), .int .i64 0]) ∧ w = w' := by
  have CI := Lib.hid (ref_in y true (decide_eq_true ⟨h0, h1⟩))
  have CL := Lib.hid (ref_len y m m0 m1)
  have CF := Lib.hid (ref_first y h0 h1)
  obtain ⟨j0, j1⟩ := jan_bd (y := y) (by omega) (by omega)
  obtain ⟨u0, u1, u2, u3⟩ := cum_top y m m0 m1
  have u4 := (size_ge y).2
  have hd : ¬ mlen y m < d := by omega
  have hd2 : ¬ d < 1 := by omega
  go_enter Tryz.func83, Tryz.ntmps83
  go_wp2_with fail
  refine (CI.out _).mono ?_
  rintro e w' ⟨rfl, rfl⟩
  go_wp2_with fail
  refine (CL.out _).mono ?_
  rintro e w' ⟨rfl, rfl⟩
  go_wp2_with fail
  refine (CF.out _).mono ?_
  rintro e w' ⟨rfl, rfl⟩
  go_wp2_with fail
  go_loop [8, 9] (fun s i => ∃ k : Int, 1 ≤ k ∧ k ≤ m ∧ i = .int .i64 k ∧ s = .int .i64 (jan y + cum y k)) (fun _ i => (m - intOf i).toNat)
  case atStart => exact ⟨1, by omega, m0, rfl, by rw [show cum y 1 = 0 from rfl, Int.add_zero]⟩
  case round =>
    obtain ⟨k, k0, k1, rfl, rfl⟩ := hrel
    obtain ⟨v0, v1, v2, v3⟩ := cum_top y k k0 (by omega)
    have CK := Lib.hid (ref_len y k k0 (by omega))
    by_cases hlt : k < m
    · go_wp2_with fail
      refine (CK.out _).mono ?_
      rintro e w' ⟨rfl, rfl⟩
      go_wp2_with fail
      go_round
      case rel => exact ⟨k + 1, by omega, by omega, rfl, by rw [cum_succ y k k0 (by omega)]; congr 1; omega⟩
      case measure => simp [intOf]; omega
    · obtain rfl : k = m := by omega
      go_wp2_with fail
      go_ret2
      exact ⟨ret2 (by unfold dayOf; omega) rfl, rfl⟩
end Go.Proofs.YtgllbagmmpicaaaGreatDoor.Civ
