/- Plain laws of the calendar: the first day of a year, the year of a day, days of months, weekdays. No program in sight. The functions of packages civil and analemmaref01 that layers above call: what they return. The functions of packages civil, dayform, analemmaref01 and analemmaref02 that layers above call, continued: years of instants, days of dates, weekdays, days of months. The functions of packages civil, dayform, analemmaref01 and analemmaref02 that layers above call, continued: the year of an instant, weekdays, days of months. Plain laws of amounts of time: what a string like -1:30 is read as, and how seconds are printed. No program in sight. -/
import Derived.Lib.Hide
import Derived.IntWalk
import Derived.Test.YtkpmmabdpeobaaaGreatDoorProg
import Derived.WalkKit
import Derived.WalkSpells
import Derived.WalkLawsBesides
import Derived.Deep.QuietTactic
import Derived.BigQuiet
import Derived.Outline
import Derived.Deep.RegionWith
import Derived.Below
namespace Go.Proofs.YtkpmmabdpeobaaaGreatDoor.Civ
def leapB (y : Int) : Bool := decide (y % 4 = 0) && (!decide (y % 100 = 0) || decide (y % 400 = 0))
def jan (y : Int) : Int := 365 * y + (y + 3) / 4 - (y + 99) / 100 + (y + 399) / 400 - 719528
def sizeI (y : Int) : Int := if leapB y then 366 else 365
theorem leap_true {y : Int} : leapB y = true ↔ (y % 4 = 0 ∧ (y % 100 ≠ 0 ∨ y % 400 = 0)) := by
 unfold leapB; simp
theorem jan_succ (y : Int) : jan (y + 1) = jan y + sizeI y := by
 unfold jan sizeI
 by_cases h : leapB y = true
 · rw [if_pos h]; rw [leap_true] at h; omega
 · rw [if_neg h]; rw [leap_true] at h; omega
theorem size_ge (y : Int) : 365 ≤ sizeI y ∧ sizeI y ≤ 366 := by unfold sizeI; split <;> omega
theorem jan_400 (y c : Int) : jan (y + 400 * c) = jan y + 146097 * c := by unfold jan; omega
theorem jan_lt {a b : Int} (h : a < b) : jan a + 365 ≤ jan b := by unfold jan; omega
theorem jan_le {a b : Int} (h : a ≤ b) : jan a ≤ jan b := by unfold jan; omega
def gy (rest : Int) : Int := rest - rest / 1460 + rest / 36524 - rest / 146096
def yin (rest : Int) : Int := gy rest / 365
def marF (n : Int) : Int := 365 * n + n / 4 - n / 100
theorem gy_succ (r : Int) (h0 : 0 ≤ r) (h : r < 146096) : gy r ≤ gy (r + 1) := by
 unfold gy
 by_cases h1 : (r + 1) / 36524 = r / 36524 + 1
 · omega
 · omega
theorem gy_mono (r : Int) (k : Nat) (h0 : 0 ≤ r) (h : r + k ≤ 146096) : gy r ≤ gy (r + k) := by
 induction k with
 | zero => simp
 | succ k ih =>
   have a := ih (by omega)
   have b := gy_succ (r + k) (by omega) (by omega)
   rw [show r + (k + 1 : Nat) = r + k + 1 by omega]
   omega
theorem yin_mono {r s : Int} (h0 : 0 ≤ r) (h : r ≤ s) (h1 : s ≤ 146096) : yin r ≤ yin s := by
 obtain ⟨k, rfl⟩ : ∃ k : Nat, s = r + k := ⟨(s - r).toNat, by omega⟩
 have := gy_mono r k h0 (by omega)
 unfold yin
 omega
def chkI (n : Nat) : Bool := decide ((n : Int) ≤ yin (marF n)) && (decide (n = 0) || decide (yin (marF n - 1) ≤ (n : Int) - 1))
theorem chk_all : (List.range 400).all chkI = true := by kernel_rfl
theorem chk_at (n : Int) (h0 : 0 ≤ n) (h : n < 400) : n ≤ yin (marF n) ∧ (n = 0 ∨ yin (marF n - 1) ≤ n - 1) := by
 obtain ⟨k, rfl⟩ := Int.eq_ofNat_of_zero_le h0
 have := List.all_eq_true.1 chk_all k (List.mem_range.2 (by omega))
 unfold chkI at this
 simp only [Bool.and_eq_true, Bool.or_eq_true, decide_eq_true_eq] at this
 omega
theorem yin_ok (rest : Int) (h0 : 0 ≤ rest) (h1 : rest < 146097) : 0 ≤ yin rest ∧ yin rest ≤ 399 ∧ 0 ≤ rest - marF (yin rest) ∧ rest - marF (yin rest) ≤ 365 ∧
 rest < marF (yin rest + 1) + (yin rest + 1) / 400 := by
 have a0 : yin 0 = 0 := by decide
 have a1 : yin 146096 = 399 := by decide
 have m0 := yin_mono (Int.le_refl 0) h0 (by omega)
 have m1 := yin_mono h0 (show rest ≤ 146096 by omega) (Int.le_refl _)
 rw [a0] at m0
 rw [a1] at m1
 obtain ⟨c1, c2⟩ := chk_at (yin rest) m0 (by omega)
 have b1 : marF (yin rest) ≤ rest := by
  by_cases h : marF (yin rest) ≤ rest
  · exact h
  · have := yin_mono h0 (show rest ≤ marF (yin rest) - 1 by omega) (by unfold marF; omega)
    rcases c2 with c2 | c2
    · rw [c2] at h; exact absurd (show marF 0 ≤ rest by unfold marF; omega) h
    · omega
 have b2 : rest < marF (yin rest + 1) + (yin rest + 1) / 400 := by
  by_cases h : yin rest = 399
  · rw [h]; unfold marF; omega
  · obtain ⟨d1, _⟩ := chk_at (yin rest + 1) (by omega) (by omega)
    by_cases h2 : rest < marF (yin rest + 1)
    · omega
    · have := yin_mono (show 0 ≤ marF (yin rest + 1) by unfold marF; omega) (show marF (yin rest + 1) ≤ rest by omega) (by omega)
      omega
 refine ⟨m0, m1, by omega, ?_, b2⟩
 generalize yin rest = n at *
 unfold marF at *
 omega
def marchDay (rest : Int) : Int := rest - marF (yin rest)
def cyc (days : Int) : Int := (days + 719468) / 146097
def rst (days : Int) : Int := (days + 719468) % 146097
def yearOf (days : Int) : Int := if marchDay (rst days) < 306 then 400 * cyc days + yin (rst days) else 400 * cyc days + yin (rst days) + 1
theorem yearOf_ok (days : Int) : jan (yearOf days) ≤ days ∧ days < jan (yearOf days + 1) := by
 have hr : 0 ≤ rst days ∧ rst days < 146097 := by unfold rst; omega
 obtain ⟨a1, a2, a3, a4, a5⟩ := yin_ok (rst days) hr.1 hr.2
 have e : days = 146097 * cyc days + rst days - 719468 := by unfold cyc rst; omega
 unfold yearOf marchDay
 generalize cyc days = c at *
 generalize rst days = r at *
 generalize yin r = n at *
 split
 · rw [show 400 * c + n = n + 400 * c by omega, jan_400, show n + 400 * c + 1 = (n + 1) + 400 * c by omega, jan_400]
   have e1 : (n + 1 + 3) / 4 = n / 4 + 1 := by omega
   have e2 : (n + 1 + 99) / 100 = n / 100 + 1 := by omega
   have e3 : (n + 1 + 399) / 400 = 1 := by omega
   have e4 : (n + 3) / 4 ≤ n / 4 + 1 := by omega
   have e5 : n / 100 ≤ (n + 99) / 100 := by omega
   have e6 : (n + 399) / 400 ≤ 1 := by omega
   unfold jan marF at *
   rw [e1, e2, e3]
   generalize (n + 3) / 4 = x1 at *
   generalize (n + 99) / 100 = x2 at *
   generalize (n + 399) / 400 = x3 at *
   generalize n / 4 = x4 at *
   generalize n / 100 = x5 at *
   clear a5 e1 e2 e3
   omega
 · rw [show 400 * c + n + 1 = (n + 1) + 400 * c by omega, jan_400, show n + 1 + 400 * c + 1 = (n + 2) + 400 * c by omega, jan_400]
   have e1 : (n + 1 + 3) / 4 = n / 4 + 1 := by omega
   have e2 : (n + 1 + 99) / 100 = n / 100 + 1 := by omega
   have e3 : (n + 1 + 399) / 400 = 1 := by omega
   have e4 : (n + 2 + 3) / 4 = (n + 1) / 4 + 1 := by omega
   have e5 : (n + 2 + 99) / 100 = (n + 1) / 100 + 1 := by omega
   have e6 : (n + 2 + 399) / 400 = (n + 1) / 400 + 1 := by omega
   unfold jan marF at *
   rw [e1, e2, e3, e4, e5, e6]
   generalize (n + 1) / 4 = x1 at *
   generalize (n + 1) / 100 = x2 at *
   generalize (n + 1) / 400 = x3 at *
   generalize n / 4 = x4 at *
   generalize n / 100 = x5 at *
   clear e1 e2 e3 e4 e5 e6
   omega
theorem yearOf_eq {days y : Int} (h1 : jan y ≤ days) (h2 : days < jan (y + 1)) : yearOf days = y := by
 have h := yearOf_ok days
 by_cases h3 : yearOf days < y
 · have := jan_le (show yearOf days + 1 ≤ y by omega); omega
 · by_cases h4 : y < yearOf days
   · have := jan_le (show y + 1 ≤ yearOf days by omega); omega
   · omega
def mlen (y m : Int) : Int := if m = 2 then (if leapB y then 29 else 28) else if m = 4 ∨ m = 6 ∨ m = 9 ∨ m = 11 then 30 else if 1 ≤ m ∧ m ≤ 12 then 31 else 0
def cum (y m : Int) : Int := if m ≤ 1 then 0 else if m = 2 then 31 else (153 * m - 457) / 5 + 59 + (if leapB y then 1 else 0)
theorem cum_succ (y m : Int) (h1 : 1 ≤ m) (h2 : m < 12) : cum y (m + 1) = cum y m + mlen y m := by
 obtain rfl | rfl | rfl | rfl | rfl | rfl | rfl | rfl | rfl | rfl | rfl : m = 1 ∨ m = 2 ∨ m = 3 ∨ m = 4 ∨ m = 5 ∨ m = 6 ∨ m = 7 ∨ m = 8 ∨ m = 9 ∨ m = 10 ∨ m = 11 := by omega
 all_goals (unfold cum mlen; cases leapB y <;> simp)
theorem cum_top (y m : Int) (h1 : 1 ≤ m) (h2 : m ≤ 12) : 0 ≤ cum y m ∧ cum y m + mlen y m ≤ sizeI y ∧ 28 ≤ mlen y m ∧ mlen y m ≤ 31 := by
 obtain rfl | rfl | rfl | rfl | rfl | rfl | rfl | rfl | rfl | rfl | rfl | rfl : m = 1 ∨ m = 2 ∨ m = 3 ∨ m = 4 ∨ m = 5 ∨ m = 6 ∨ m = 7 ∨ m = 8 ∨ m = 9 ∨ m = 10 ∨ m = 11 ∨ m = 12 := by omega
 all_goals (unfold cum mlen sizeI; cases leapB y <;> simp)
def dayOf (y m d : Int) : Int := jan y + cum y m + d - 1
def before (k : Int) : Int := (153 * k + 2) / 5
theorem dayOf_march (y m d : Int) (h1 : 3 ≤ m) (h2 : m ≤ 12) : dayOf y m d = y / 400 * 146097 + y % 400 * 365 + y % 400 / 4 - y % 400 / 100 + before (m - 3) + d - 1 - 719468 := by
 unfold dayOf cum before jan
 rw [if_neg (by omega), if_neg (by omega)]
 by_cases h : leapB y = true
 · rw [if_pos h]; rw [leap_true] at h; omega
 · rw [if_neg h]; rw [leap_true] at h; omega
theorem dayOf_early (y m d : Int) (h1 : 1 ≤ m) (h2 : m ≤ 2) : dayOf y m d = (y - 1) / 400 * 146097 + (y - 1) % 400 * 365 + (y - 1) % 400 / 4 - (y - 1) % 400 / 100 + before (m + 12 - 3) + d - 1 - 719468 := by
 obtain rfl | rfl : m = 1 ∨ m = 2 := by omega
 · unfold dayOf cum before jan; simp; omega
 · unfold dayOf cum before jan; simp; omega
def wday (x : Int) : Int := (x + 4) % 7
end Go.Proofs.YtkpmmabdpeobaaaGreatDoor.Civ
namespace Go.Proofs.YtkpmmabdpeobaaaGreatDoor.Civ
open Go.RowKit
theorem tmod_zero (y k : Int) : (y.tmod k = 0) ↔ y % k = 0 := by
 rw [← Int.dvd_iff_tmod_eq_zero, ← Int.dvd_iff_emod_eq_zero]
theorem quo_parts (a b : Int) (hb : 0 < b) : ∃ x r : Int, a.tdiv b = x ∧ a.tmod b = r ∧ -b < r ∧ r < b ∧ (x ≤ a ∨ x ≤ 0) ∧ (a ≤ x ∨ 0 ≤ x) ∧ (r < 0 → a / b = x - 1 ∧ a % b = r + b) ∧ (0 ≤ r → a / b = x ∧ a % b = r) := by
 have e := Int.mul_tdiv_add_tmod a b
 have h1 := Int.tmod_lt_of_pos a hb
 have h2 : -b < a.tmod b := by
  have := Int.tmod_lt_of_pos (-a) hb
  rw [Int.neg_tmod] at this
  omega
 refine ⟨_, _, rfl, rfl, h2, h1, ?_, ?_, fun h => ?_, fun h => ?_⟩
 · by_cases ha : 0 ≤ a
   · left
     rw [Int.tdiv_eq_ediv_of_nonneg ha]
     exact Int.ediv_le_self b ha
   · right
     have := Int.tdiv_nonneg (show 0 ≤ -a by omega) (show 0 ≤ b by omega)
     rw [Int.neg_tdiv] at this
     omega
 · by_cases ha : 0 ≤ a
   · right
     exact Int.tdiv_nonneg ha (by omega)
   · left
     have h3 : (-a).tdiv b ≤ -a := by
      rw [Int.tdiv_eq_ediv_of_nonneg (by omega)]
      exact Int.ediv_le_self b (by omega)
     rw [Int.neg_tdiv] at h3
     omega
 · refine (Int.ediv_emod_unique hb).2 ⟨?_, by omega, by omega⟩
   rw [Int.mul_sub]; omega
 · exact (Int.ediv_emod_unique hb).2 ⟨by omega, h, h1⟩
set_option maxHeartbeats 1000000 in
theorem ref_leap (y : Int) (w : World) :
 Calls Tryz.prog 138 #[.int .i64 y] w fun e w' => e = .returned (.bool (leapB y)) ∧ w = w' := by
 have hl : leapB y = (decide (y % 4 = 0) && (!decide (y % 100 = 0) || decide (y % 400 = 0))) := rfl
 rw [hl]
 obtain ⟨b4, h4⟩ : ∃ b, decide (y % 4 = 0) = b := ⟨_, rfl⟩
 obtain ⟨b100, h100⟩ : ∃ b, decide (y % 100 = 0) = b := ⟨_, rfl⟩
 obtain ⟨b400, h400⟩ : ∃ b, decide (y % 400 = 0) = b := ⟨_, rfl⟩
 have t4 : (y.tmod 4 == 0) = b4 := by rw [← h4, Bool.eq_iff_iff, beq_iff_eq, decide_eq_true_iff]; exact tmod_zero y 4
 have t100 : (y.tmod 100 != 0) = !b100 := by rw [← h100, Bool.eq_iff_iff, bne_iff_ne, Bool.not_eq_true', decide_eq_false_iff_not]; exact not_congr (tmod_zero y 100)
 have t400 : (y.tmod 400 == 0) = b400 := by rw [← h400, Bool.eq_iff_iff, beq_iff_eq, decide_eq_true_iff]; exact tmod_zero y 400
 have hc : b400 = true → b4 = true := by rw [← h4, ← h400, decide_eq_true_iff, decide_eq_true_iff]; omega
 rw [h4, h100, h400]
 clear h4 h100 h400 hl
 have HC := Lib.hid hc
 clear hc
 cases b4 <;> cases b100 <;> cases b400
 all_goals first | exact absurd (HC.out rfl) (by decide) | skip
 all_goals
  simp only [Bool.not_true, Bool.not_false] at t100
  go_enter Tryz.func138, Tryz.ntmps138
  go_wp2_with fail
  go_ret
  exact ⟨rfl, rfl⟩
set_option maxHeartbeats 1000000 in
theorem leap_any (y : Int) (w : World) :
 Calls Tryz.prog 192 #[.int .i64 y] w fun e w' => e = .returned (.bool (leapB y)) ∧ w = w' := by
 have hl : leapB y = (decide (y % 4 = 0) && (!decide (y % 100 = 0) || decide (y % 400 = 0))) := rfl
 rw [hl]
 obtain ⟨b4, h4⟩ : ∃ b, decide (y % 4 = 0) = b := ⟨_, rfl⟩
 obtain ⟨b100, h100⟩ : ∃ b, decide (y % 100 = 0) = b := ⟨_, rfl⟩
 obtain ⟨b400, h400⟩ : ∃ b, decide (y % 400 = 0) = b := ⟨_, rfl⟩
 have t4 : (y.tmod 4 == 0) = b4 := by rw [← h4, Bool.eq_iff_iff, beq_iff_eq, decide_eq_true_iff]; exact tmod_zero y 4
 have t100 : (y.tmod 100 != 0) = !b100 := by rw [← h100, Bool.eq_iff_iff, bne_iff_ne, Bool.not_eq_true', decide_eq_false_iff_not]; exact not_congr (tmod_zero y 100)
 have t400 : (y.tmod 400 == 0) = b400 := by rw [← h400, Bool.eq_iff_iff, beq_iff_eq, decide_eq_true_iff]; exact tmod_zero y 400
 rw [h4, h100, h400]
 clear h4 h100 h400 hl
 cases b4 <;> cases b100 <;> cases b400
 all_goals
  simp only [Bool.not_true, Bool.not_false] at t100
  go_enter Tryz.func192, Tryz.ntmps192
  go_wp2_with fail
  go_ret
  exact ⟨rfl, rfl⟩
set_option maxHeartbeats 1000000 in
theorem floor_any (a b : Int) (h0 : -4611686018427387904 ≤ a) (h1 : a ≤ 4611686018427387904) (hb : 0 < b) (w : World) :
 Calls Tryz.prog 136 #[.int .i64 a, .int .i64 b] w fun e w' => e = .returned (.int .i64 (a / b)) ∧ w = w' := by
 obtain ⟨x, r, hx, hr, r1, r2, x1, x2, hn, hp⟩ := quo_parts a b hb
 have hb0 : (b == 0) = false := by rw [beq_eq_false_iff_ne]; omega
 have hxl : -4611686018427387904 ≤ x := by omega
 have hxu : x ≤ 4611686018427387904 := by omega
 by_cases h : r < 0
 · rw [(hn h).1]
   clear hn hp x1 x2
   go_enter Tryz.func136, Tryz.ntmps136
   go_wp2_with fail
   go_ret
   exact ⟨rfl, rfl⟩
 · rw [(hp (by omega)).1]
   clear hn hp x1 x2
   go_enter Tryz.func136, Tryz.ntmps136
   go_wp2_with fail
   go_ret
   exact ⟨rfl, rfl⟩
set_option maxHeartbeats 1000000 in
theorem split_any (a b : Int) (h0 : -4611686018427387904 ≤ a) (h1 : a ≤ 4611686018427387904) (hb : 0 < b) (hb1 : b ≤ 1000000) (w : World) :
 Calls Tryz.prog 189 #[.int .i64 a, .int .i64 b] w fun e w' => e = .returned (.tuple #[.int .i64 (a / b), .int .i64 (a % b)]) ∧ ∃ n, w' = w.drewN n := by
 obtain ⟨x, r, hx, hr, r1, r2, x1, x2, hn, hp⟩ := quo_parts a b hb
 have hb0 : (b == 0) = false := by rw [beq_eq_false_iff_ne]; omega
 have hxl : -4611686018427387904 ≤ x := by omega
 have hxu : x ≤ 4611686018427387904 := by omega
 by_cases h : r < 0
 · rw [(hn h).1, (hn h).2]
   clear hn hp x1 x2
   go_enter Tryz.func189, Tryz.ntmps189
   go_wp2_with fail
   go_quiet (fail)
   go_wp2_with fail
   go_ret2
   exact ⟨rfl, nq, rfl⟩
 · rw [(hp (by omega)).1, (hp (by omega)).2]
   clear hn hp x1 x2
   go_enter Tryz.func189, Tryz.ntmps189
   go_wp2_with fail
   go_quiet (fail)
   go_wp2_with fail
   go_ret2
   exact ⟨rfl, nq, rfl⟩
theorem ret1 {k : IntKind} {a b : Int} (h : a = b) : Ending.returned (.int k a) = .returned (.int k b) := by rw [h]
theorem ret2 {k l : IntKind} {a b c d : Int} (h : a = b) (h' : c = d) : Ending.returned (.tuple #[.int k a, .int l c]) = .returned (.tuple #[.int k b, .int l d]) := by rw [h, h']
theorem ref_size (y : Int) (w : World) :
 Calls Tryz.prog 168 #[.int .i64 y] w fun e w' => e = .returned (.int .i64 (sizeI y)) ∧ w = w' := by
 unfold sizeI
 have C := Lib.hid (ref_leap y)
 obtain ⟨b, hb⟩ : ∃ b, leapB y = b := ⟨_, rfl⟩
 rw [hb] at C ⊢
 clear hb
 go_enter Tryz.func168, Tryz.ntmps168
 go_wp2_with fail
 refine (C.out _).mono ?_
 rintro e w' ⟨rfl, rfl⟩
 cases b
 · go_wp2
   go_ret
   exact ⟨rfl, rfl⟩
 · go_wp2
   go_ret
   exact ⟨rfl, rfl⟩
theorem ref_in (y : Int) (b : Bool) (hb : decide (-2000000000 ≤ y ∧ y ≤ 2000000000) = b) (w : World) :
 Calls Tryz.prog 169 #[.int .i64 y] w fun e w' => e = .returned (.bool b) ∧ w = w' := by
 by_cases h1 : -2000000000 ≤ y
 · by_cases h2 : y ≤ 2000000000
   · obtain rfl : b = true := by rw [← hb]; exact decide_eq_true ⟨h1, h2⟩
     clear hb
     go_enter Tryz.func169, Tryz.ntmps169
     go_wp2_with fail
     go_ret
     exact ⟨rfl, rfl⟩
   · obtain rfl : b = false := by rw [← hb]; exact decide_eq_false (fun h => h2 h.2)
     clear hb
     go_enter Tryz.func169, Tryz.ntmps169
     go_wp2_with fail
     go_ret
     exact ⟨rfl, rfl⟩
 · obtain rfl : b = false := by rw [← hb]; exact decide_eq_false (fun h => h1 h.1)
   clear hb
   go_enter Tryz.func169, Tryz.ntmps169
   go_wp2_with fail
   go_ret
   exact ⟨rfl, rfl⟩
theorem in_any (y : Int) (b : Bool) (hb : decide (-2000000000 ≤ y ∧ y ≤ 2000000000) = b) (w : World) :
 Calls Tryz.prog 213 #[.int .i64 y] w fun e w' => e = .returned (.bool b) ∧ w = w' := by
 by_cases h1 : -2000000000 ≤ y
 · by_cases h2 : y ≤ 2000000000
   · obtain rfl : b = true := by rw [← hb]; exact decide_eq_true ⟨h1, h2⟩
     clear hb
     go_enter Tryz.func213, Tryz.ntmps213
     go_wp2_with fail
     go_ret
     exact ⟨rfl, rfl⟩
   · obtain rfl : b = false := by rw [← hb]; exact decide_eq_false (fun h => h2 h.2)
     clear hb
     go_enter Tryz.func213, Tryz.ntmps213
     go_wp2_with fail
     go_ret
     exact ⟨rfl, rfl⟩
 · obtain rfl : b = false := by rw [← hb]; exact decide_eq_false (fun h => h1 h.1)
   clear hb
   go_enter Tryz.func213, Tryz.ntmps213
   go_wp2_with fail
   go_ret
   exact ⟨rfl, rfl⟩
set_option maxHeartbeats 2000000 in
theorem ref_len (y m : Int) (h1 : 1 ≤ m) (h2 : m ≤ 12) (w : World) :
 Calls Tryz.prog 170 #[.int .i64 y, .int .i64 m] w fun e w' => e = .returned (.int .i64 (mlen y m)) ∧ w = w' := by
 have C := Lib.hid (ref_leap y)
 have h : m = 2 ∨ m ≠ 2 := by omega
 rcases h with rfl | hm
 · have hl : mlen y 2 = if leapB y then 29 else 28 := rfl
   rw [hl]
   obtain ⟨b, hb⟩ : ∃ b, leapB y = b := ⟨_, rfl⟩
   rw [hb] at C ⊢
   clear hb hl h1 h2
   go_enter Tryz.func170, Tryz.ntmps170
   go_wp2_with fail
   refine (C.out _).mono ?_
   rintro e w' ⟨rfl, rfl⟩
   cases b
   · go_wp2
     go_ret
     exact ⟨rfl, rfl⟩
   · go_wp2
     go_ret
     exact ⟨rfl, rfl⟩
 · clear C
   obtain rfl | rfl | rfl | rfl | rfl | rfl | rfl | rfl | rfl | rfl | rfl : m = 1 ∨ m = 3 ∨ m = 4 ∨ m = 5 ∨ m = 6 ∨ m = 7 ∨ m = 8 ∨ m = 9 ∨ m = 10 ∨ m = 11 ∨ m = 12 := by omega
   all_goals
    clear h1 h2 hm
    go_enter Tryz.func170, Tryz.ntmps170
    go_wp2_with fail
    go_ret
    exact ⟨rfl, rfl⟩
set_option maxHeartbeats 2000000 in
theorem len_any (y m : Int) (h1 : 1 ≤ m) (h2 : m ≤ 12) (w : World) :
 Calls Tryz.prog 214 #[.int .i64 y, .int .i64 m] w fun e w' => e = .returned (.int .i64 (mlen y m)) ∧ w = w' := by
 have C := Lib.hid (leap_any y)
 have h : m = 2 ∨ m ≠ 2 := by omega
 rcases h with rfl | hm
 · have hl : mlen y 2 = if leapB y then 29 else 28 := rfl
   rw [hl]
   obtain ⟨b, hb⟩ : ∃ b, leapB y = b := ⟨_, rfl⟩
   rw [hb] at C ⊢
   clear hb hl h1 h2
   go_enter Tryz.func214, Tryz.ntmps214
   go_wp2_with fail
   refine (C.out _).mono ?_
   rintro e w' ⟨rfl, rfl⟩
   cases b
   · go_wp2
     go_ret
     exact ⟨rfl, rfl⟩
   · go_wp2
     go_ret
     exact ⟨rfl, rfl⟩
 · clear C
   obtain rfl | rfl | rfl | rfl | rfl | rfl | rfl | rfl | rfl | rfl | rfl : m = 1 ∨ m = 3 ∨ m = 4 ∨ m = 5 ∨ m = 6 ∨ m = 7 ∨ m = 8 ∨ m = 9 ∨ m = 10 ∨ m = 11 ∨ m = 12 := by omega
   all_goals
    clear h1 h2 hm
    go_enter Tryz.func214, Tryz.ntmps214
    go_wp2_with fail
    go_ret
    exact ⟨rfl, rfl⟩
theorem jan_bd {y : Int} (h0 : -3000000000 ≤ y) (h1 : y ≤ 3000000000) : -2000000000000 ≤ jan y ∧ jan y ≤ 2000000000000 := by unfold jan; omega
theorem jan_cycle (c : Int) : jan (c * 400) = c * 146097 - 719528 := by unfold jan; omega
set_option maxHeartbeats 2000000 in
theorem ref_first (y : Int) (h0 : -2000000000 ≤ y) (h1 : y ≤ 2000000000) (w : World) :
 Calls Tryz.prog 171 #[.int .i64 y] w fun e w' => e = .returned (.int .i64 (jan y)) ∧ w = w' := by
 have C := Lib.hid (floor_any y 400 (by omega) (by omega) (by decide))
 obtain ⟨c, hc⟩ : ∃ c, y / 400 = c := ⟨_, rfl⟩
 have c0 : c * 400 ≤ y := by omega
 have c1 : -5000001 ≤ c := by omega
 have c2 : c ≤ 5000000 := by omega
 rw [hc] at C
 clear hc
 go_enter Tryz.func171, Tryz.ntmps171
 go_wp2_with fail
 refine (C.out _).mono ?_
 rintro e w' ⟨rfl, rfl⟩
 go_wp2_with fail
 go_loop [4, 5] (fun d i => ∃ k : Int, c * 400 ≤ k ∧ k ≤ y ∧ i = .int .i64 k ∧ d = .int .i64 (jan k)) (fun _ i => (y - intOf i).toNat)
 case atStart => exact ⟨c * 400, by omega, c0, rfl, by rw [jan_cycle]⟩
 case round =>
  obtain ⟨k, k0, k1, rfl, rfl⟩ := hrel
  obtain ⟨j0, j1⟩ := jan_bd (y := k) (by omega) (by omega)
  obtain ⟨s0, s1⟩ := size_ge k
  have CS := Lib.hid (ref_size k)
  by_cases hlt : k < y
  · go_wp2_with fail
    refine (CS.out _).mono ?_
    rintro e w' ⟨rfl, rfl⟩
    go_wp2_with fail
    go_round
    case rel => exact ⟨k + 1, by omega, by omega, rfl, by rw [jan_succ]⟩
    case measure => simp [intOf]; omega
  · obtain rfl : k = y := by omega
    go_wp2_with fail
    go_ret
    exact ⟨rfl, rfl⟩
set_option maxHeartbeats 2000000 in
theorem ref_days (y m d : Int) (h0 : -2000000000 ≤ y) (h1 : y ≤ 2000000000) (m0 : 1 ≤ m) (m1 : m ≤ 12) (d0 : 1 ≤ d) (d1 : d ≤ mlen y m) (w : World) :
 Calls Tryz.prog 137 #[.int .i64 y, .int .i64 m, .int .i64 d] w fun e w' => e = .returned (.tuple #[.int .i64 (dayOf y m d), .int .i64 0]) ∧ w = w' := by
 have CI := Lib.hid (ref_in y true (decide_eq_true ⟨h0, h1⟩))
 have CL := Lib.hid (ref_len y m m0 m1)
 have CF := Lib.hid (ref_first y h0 h1)
 obtain ⟨j0, j1⟩ := jan_bd (y := y) (by omega) (by omega)
 obtain ⟨u0, u1, u2, u3⟩ := cum_top y m m0 m1
 have u4 := (size_ge y).2
 have hd : ¬ mlen y m < d := by omega
 have hd2 : ¬ d < 1 := by omega
 go_enter Tryz.func137, Tryz.ntmps137
 go_wp2_with fail
 refine (CI.out _).mono ?_
 rintro e w' ⟨rfl, rfl⟩
 go_wp2_with fail
 refine (CL.out _).mono ?_
 rintro e w' ⟨rfl, rfl⟩
 go_wp2_with fail
 refine (CF.out _).mono ?_
 rintro e w' ⟨rfl, rfl⟩
 go_wp2_with fail
 go_loop [8, 9] (fun s i => ∃ k : Int, 1 ≤ k ∧ k ≤ m ∧ i = .int .i64 k ∧ s = .int .i64 (jan y + cum y k)) (fun _ i => (m - intOf i).toNat)
 case atStart => exact ⟨1, by omega, m0, rfl, by rw [show cum y 1 = 0 from rfl, Int.add_zero]⟩
 case round =>
  obtain ⟨k, k0, k1, rfl, rfl⟩ := hrel
  obtain ⟨v0, v1, v2, v3⟩ := cum_top y k k0 (by omega)
  have CK := Lib.hid (ref_len y k k0 (by omega))
  by_cases hlt : k < m
  · go_wp2_with fail
    refine (CK.out _).mono ?_
    rintro e w' ⟨rfl, rfl⟩
    go_wp2_with fail
    go_round
    case rel => exact ⟨k + 1, by omega, by omega, rfl, by rw [cum_succ y k k0 (by omega)]; congr 1; omega⟩
    case measure => simp [intOf]; omega
  · obtain rfl : k = m := by omega
    go_wp2_with fail
    go_ret2
    exact ⟨ret2 (by unfold dayOf; omega) rfl, rfl⟩
end Go.Proofs.YtkpmmabdpeobaaaGreatDoor.Civ
namespace Go.Proofs.YtkpmmabdpeobaaaGreatDoor.Civ
open Go.RowKit
def yearT (t : Int) : Int := if yearOf (t / 86400) < -2000000000 then -2000000000 else if 2000000000 < yearOf (t / 86400) then 2000000000 else yearOf (t / 86400)
theorem yearOf_bd {d : Int} (h0 : -1000000000000000 ≤ d) (h1 : d ≤ 1000000000000000) : -3000000000000 ≤ yearOf d ∧ yearOf d ≤ 3000000000000 := by
 obtain ⟨a, b⟩ := yearOf_ok d
 unfold jan at a b
 omega
set_option maxHeartbeats 2000000 in
theorem ref_year (d : Int) (h0 : -1000000000000000 ≤ d) (h1 : d ≤ 1000000000000000) (w : World) :
 Calls Tryz.prog 135 #[.int .i64 d] w fun e w' => (∃ r : Int, e = .returned (.tuple #[.int .i64 (yearOf d), .int .i64 r])) ∧ w = w' := by
 have C := Lib.hid (floor_any d 146097 (by omega) (by omega) (by decide))
 obtain ⟨c, hc⟩ : ∃ c, d / 146097 = c := ⟨_, rfl⟩
 have c0 : 0 ≤ d - c * 146097 := by omega
 have c3 : d - c * 146097 ≤ 146096 := by omega
 have c1 : -10000000000 ≤ c := by omega
 have c2 : c ≤ 10000000000 := by omega
 rw [hc] at C
 clear hc
 go_enter Tryz.func135, Tryz.ntmps135
 go_wp2_with fail
 refine (C.out _).mono ?_
 rintro e w' ⟨rfl, rfl⟩
 go_wp2_with fail
 go_loop [5, 6] (fun r i => ∃ k s : Int, c * 400 ≤ k ∧ k ≤ c * 400 + 865625 ∧ 0 ≤ s ∧ s ≤ 865625 - (k - c * 400) ∧ jan k + s = d ∧ i = .int .i64 k ∧ r = .int .i64 s) (fun r _ => (intOf r).toNat)
 case atStart => exact ⟨c * 400, d - c * 146097 + 719528, by omega, by omega, by omega, by omega, by rw [jan_cycle]; omega, rfl, rfl⟩
 case round =>
  obtain ⟨k, s, k0, k1, s0, s1, hj, rfl, rfl⟩ := hrel
  have HJ := Lib.hid hj
  obtain ⟨z0, z1⟩ := size_ge k
  have CS := Lib.hid (ref_size k)
  clear hj
  by_cases hlt : sizeI k ≤ s
  · go_wp2_with fail
    refine (CS.out _).mono ?_
    rintro e w' ⟨rfl, rfl⟩
    go_wp2_with fail
    refine (CS.out _).mono ?_
    rintro e w' ⟨rfl, rfl⟩
    go_wp2_with fail
    go_round
    case rel => exact ⟨k + 1, s - sizeI k, by omega, by omega, by omega, by omega, by rw [jan_succ]; have := HJ.out; omega, rfl, rfl⟩
    case measure => simp [intOf]; omega
  · have hy : yearOf d = k := yearOf_eq (by have := HJ.out; omega) (by rw [jan_succ]; have := HJ.out; omega)
    have HY := Lib.hid hy
    clear hy
    go_wp2_with fail
    refine (CS.out _).mono ?_
    rintro e w' ⟨rfl, rfl⟩
    go_wp2_with fail
    go_ret2
    exact ⟨⟨s, ret2 HY.out.symm rfl⟩, rfl⟩
set_option maxHeartbeats 2000000 in
theorem ref_Year (t : Int) (h0 : -9223372036854775808 ≤ t) (h1 : t ≤ 9223372036854775807) (h2 : -4611686018427387904 ≤ t) (h3 : t ≤ 4611686018427387904) (w : World) :
 Calls Tryz.prog 94 #[.int .i64 t] w fun e w' => e = .returned (.int .i64 (yearT t)) ∧ w = w' := by
 have C := Lib.hid (floor_any t 86400 h2 h3 (by decide))
 have CY := Lib.hid (ref_year (t / 86400) (by omega) (by omega))
 obtain ⟨y0, y1⟩ := yearOf_bd (d := t / 86400) (by omega) (by omega)
 unfold yearT
 obtain ⟨d, hd⟩ : ∃ d, t / 86400 = d := ⟨_, rfl⟩
 rw [hd] at C CY y0 y1 ⊢
 clear hd
 obtain ⟨y, hy⟩ : ∃ y, yearOf d = y := ⟨_, rfl⟩
 rw [hy] at CY y0 y1 ⊢
 clear hy
 by_cases a : y < -2000000000
 · rw [if_pos a]
   go_enter Tryz.func94, Tryz.ntmps94
   go_wp2_with fail
   refine (C.out _).mono ?_
   rintro e w' ⟨rfl, rfl⟩
   go_wp2_with fail
   refine (CY.out _).mono ?_
   rintro e w' ⟨⟨r, rfl⟩, rfl⟩
   go_wp2_with fail
   go_ret
   exact ⟨rfl, rfl⟩
 · rw [if_neg a]
   by_cases b : 2000000000 < y
   · rw [if_pos b]
     go_enter Tryz.func94, Tryz.ntmps94
     go_wp2_with fail
     refine (C.out _).mono ?_
     rintro e w' ⟨rfl, rfl⟩
     go_wp2_with fail
     refine (CY.out _).mono ?_
     rintro e w' ⟨⟨r, rfl⟩, rfl⟩
     go_wp2_with fail
     go_ret
     exact ⟨rfl, rfl⟩
   · rw [if_neg b]
     go_enter Tryz.func94, Tryz.ntmps94
     go_wp2_with fail
     refine (C.out _).mono ?_
     rintro e w' ⟨rfl, rfl⟩
     go_wp2_with fail
     refine (CY.out _).mono ?_
     rintro e w' ⟨⟨r, rfl⟩, rfl⟩
     go_wp2_with fail
     go_ret
     exact ⟨rfl, rfl⟩
def BeforeAt (w : World) : Prop := ∀ i : Nat, i < 12 → w.cell? ⟨2, i, none⟩ = some (.int .i64 (before i))
theorem BeforeAt.row {w : World} (h : BeforeAt w) : w.cell? ⟨2, 0, none⟩ = some (.int .i64 0) ∧ w.cell? ⟨2, 1, none⟩ = some (.int .i64 31) ∧ w.cell? ⟨2, 2, none⟩ = some (.int .i64 61) ∧ w.cell? ⟨2, 3, none⟩ = some (.int .i64 92) ∧
 w.cell? ⟨2, 4, none⟩ = some (.int .i64 122) ∧ w.cell? ⟨2, 5, none⟩ = some (.int .i64 153) ∧ w.cell? ⟨2, 6, none⟩ = some (.int .i64 184) ∧ w.cell? ⟨2, 7, none⟩ = some (.int .i64 214) ∧
 w.cell? ⟨2, 8, none⟩ = some (.int .i64 245) ∧ w.cell? ⟨2, 9, none⟩ = some (.int .i64 275) ∧ w.cell? ⟨2, 10, none⟩ = some (.int .i64 306) ∧ w.cell? ⟨2, 11, none⟩ = some (.int .i64 337) :=
 ⟨h 0 (by decide), h 1 (by decide), h 2 (by decide), h 3 (by decide), h 4 (by decide), h 5 (by decide), h 6 (by decide), h 7 (by decide), h 8 (by decide), h 9 (by decide), h 10 (by decide), h 11 (by decide)⟩
theorem BeforeAt.keep {w w' : World} (h : BeforeAt w) (hB : Below w.heap.size w w') : BeforeAt w' := fun i hi => (hB.cell (p := ⟨2, i, none⟩) (block_lt_of_cell (h i hi))).trans (h i hi)
theorem below_drewN {B : Nat} {a w : World} (h : Below B a w) (n : Nat) : Below B a (w.drewN n) := ⟨h.os, h.tape, h.output, h.size, h.block⟩
set_option maxHeartbeats 4000000 in
theorem days_any (y m d : Int) (h0 : -2000000000 ≤ y) (h1 : y ≤ 2000000000) (m0 : 1 ≤ m) (m1 : m ≤ 12) (d0 : 1 ≤ d) (d1 : d ≤ mlen y m) (w : World) (hB : BeforeAt w) :
 Calls Tryz.prog 191 #[.int .i64 y, .int .i64 m, .int .i64 d] w fun e w' => e = .returned (.tuple #[.int .i64 (dayOf y m d), .int .i64 0]) ∧ ∃ n, w' = w.drewN n := by
 have CI := Lib.hid (in_any y true (decide_eq_true ⟨h0, h1⟩))
 have CL := Lib.hid (len_any y m m0 m1)
 have hu := (cum_top y m m0 m1).2.2.2
 have hd : ¬ mlen y m < d := by omega
 have hd2 : ¬ d < 1 := by omega
 have hd3 : d ≤ 31 := by omega
 obtain ⟨b0, b1, b2, b3, b4, b5, b6, b7, b8, b9, b10, b11⟩ := hB.row
 clear hB
 by_cases hm : m < 3
 · have CS := Lib.hid (split_any (y - 1) 400 (by omega) (by omega) (by decide) (by decide))
   have HD := Lib.hid (dayOf_early y m d m0 (by omega))
   have q0 : -5000001 ≤ (y - 1) / 400 := by omega
   have q1 : (y - 1) / 400 ≤ 5000001 := by omega
   have q2 : 0 ≤ (y - 1) % 400 := by omega
   have q3 : (y - 1) % 400 ≤ 399 := by omega
   obtain ⟨q, hq⟩ : ∃ q, (y - 1) / 400 = q := ⟨_, rfl⟩
   obtain ⟨r, hr⟩ : ∃ r, (y - 1) % 400 = r := ⟨_, rfl⟩
   rw [hq] at CS HD q0 q1
   rw [hr] at CS HD q2 q3
   clear hq hr
   obtain rfl | rfl : m = 1 ∨ m = 2 := by omega
   all_goals
    clear m0 m1 hm
    go_enter Tryz.func191, Tryz.ntmps191
    go_wp2_with fail
    refine (CI.out _).mono ?_
    rintro e w' ⟨rfl, rfl⟩
    go_wp2_with fail
    refine (CL.out _).mono ?_
    rintro e w' ⟨rfl, rfl⟩
    go_wp2_with fail
    refine (CS.out _).mono ?_
    rintro e w' ⟨rfl, n, rfl⟩
    go_wp2_with fail
    go_ret2
    exact ⟨ret2 (by rw [HD.out]; unfold before; omega) rfl, n, rfl⟩
 · have CS := Lib.hid (split_any y 400 (by omega) (by omega) (by decide) (by decide))
   have HD := Lib.hid (dayOf_march y m d (by omega) (by omega))
   have q0 : -5000001 ≤ y / 400 := by omega
   have q1 : y / 400 ≤ 5000001 := by omega
   have q2 : 0 ≤ y % 400 := by omega
   have q3 : y % 400 ≤ 399 := by omega
   obtain ⟨q, hq⟩ : ∃ q, y / 400 = q := ⟨_, rfl⟩
   obtain ⟨r, hr⟩ : ∃ r, y % 400 = r := ⟨_, rfl⟩
   rw [hq] at CS HD q0 q1
   rw [hr] at CS HD q2 q3
   clear hq hr
   obtain rfl | rfl | rfl | rfl | rfl | rfl | rfl | rfl | rfl | rfl : m = 3 ∨ m = 4 ∨ m = 5 ∨ m = 6 ∨ m = 7 ∨ m = 8 ∨ m = 9 ∨ m = 10 ∨ m = 11 ∨ m = 12 := by omega
   all_goals
    clear m0 m1 hm
    go_enter Tryz.func191, Tryz.ntmps191
    go_wp2_with fail
    refine (CI.out _).mono ?_
    rintro e w' ⟨rfl, rfl⟩
    go_wp2_with fail
    refine (CL.out _).mono ?_
    rintro e w' ⟨rfl, rfl⟩
    go_wp2_with fail
    refine (CS.out _).mono ?_
    rintro e w' ⟨rfl, n, rfl⟩
    go_wp2_with fail
    go_ret2
    exact ⟨ret2 (by rw [HD.out]; unfold before; omega) rfl, n, rfl⟩
end Go.Proofs.YtkpmmabdpeobaaaGreatDoor.Civ
namespace Go.Proofs.YtkpmmabdpeobaaaGreatDoor.Civ
open Go.RowKit
theorem ret3 {k l m : IntKind} {a b c d e f : Int} (h : a = b) (h' : c = d) (h2 : e = f) : Ending.returned (.tuple #[.int k a, .int l c, .int m e]) = .returned (.tuple #[.int k b, .int l d, .int m f]) := by rw [h, h', h2]
theorem before_bd (k : Nat) (h : k ≤ 11) : 0 ≤ before k ∧ before k ≤ 337 ∧ (10 ≤ k → 306 ≤ before k) ∧ (k ≤ 9 → before (k + 1) ≤ 306) ∧ (k = 0 → before k = 0) := by unfold before; omega
set_option maxHeartbeats 4000000 in
theorem date_any (d : Int) (h0 : -1000000000000000 ≤ d) (h1 : d ≤ 1000000000000000) (w : World) (hB : BeforeAt w) :
 Calls Tryz.prog 190 #[.int .i64 d] w fun e w' => (∃ m x : Int, e = .returned (.tuple #[.int .i64 (yearOf d), .int .i64 m, .int .i64 x])) ∧ Below w.heap.size w w' := by
 have CS1 := Lib.hid (split_any d 146097 (by omega) (by omega) (by decide) (by decide))
 have CS2 := Lib.hid (split_any (d % 146097 + 719468) 146097 (by omega) (by omega) (by decide) (by decide))
 have e1 : (d % 146097 + 719468) % 146097 = rst d := by unfold rst; omega
 have e2 : d / 146097 + (d % 146097 + 719468) / 146097 = cyc d := by unfold cyc; omega
 have hr : 0 ≤ rst d ∧ rst d < 146097 := by unfold rst; omega
 have hc : -10000000000 ≤ cyc d ∧ cyc d ≤ 10000000000 := by unfold cyc; omega
 obtain ⟨a1, a2, a3, a4, a5⟩ := yin_ok (rst d) hr.1 hr.2
 have hyd : yearOf d = if rst d - marF (yin (rst d)) < 306 then 400 * cyc d + yin (rst d) else 400 * cyc d + yin (rst d) + 1 := rfl
 have hyy : (rst d - rst d / 1460 + rst d / 36524 - rst d / 146096) / 365 = yin (rst d) := rfl
 have hmm : rst d - (yin (rst d) * 365 + yin (rst d) / 4 - yin (rst d) / 100) = rst d - marF (yin (rst d)) := by unfold marF; omega
 obtain ⟨c, hcc⟩ : ∃ c, cyc d = c := ⟨_, rfl⟩
 obtain ⟨r, hrr⟩ : ∃ r, rst d = r := ⟨_, rfl⟩
 obtain ⟨y, hy⟩ : ∃ y, yearOf d = y := ⟨_, rfl⟩
 rw [hcc] at e2 hc hyd
 rw [hrr] at e1 hr a1 a2 a3 a4 a5 hyd hyy hmm
 rw [hy] at hyd ⊢
 obtain ⟨n, hn⟩ : ∃ n, yin r = n := ⟨_, rfl⟩
 rw [hn] at a1 a2 a3 a4 a5 hyd hyy hmm
 obtain ⟨m, hm⟩ : ∃ m, r - marF n = m := ⟨_, rfl⟩
 rw [hm] at a3 a4 hyd hmm
 have HYD := Lib.hid hyd
 obtain ⟨p1, hp1⟩ : ∃ p, d / 146097 = p := ⟨_, rfl⟩
 obtain ⟨p2, hp2⟩ : ∃ p, d % 146097 = p := ⟨_, rfl⟩
 have q1 : -10000000000 ≤ p1 ∧ p1 ≤ 10000000000 := by omega
 have q2 : 0 ≤ p2 ∧ p2 < 146097 := by omega
 rw [hp1] at e2 CS1
 rw [hp2] at e1 e2 CS1 CS2
 obtain ⟨p3, hp3⟩ : ∃ p, (p2 + 719468) / 146097 = p := ⟨_, rfl⟩
 have q3 : 0 ≤ p3 ∧ p3 ≤ 10 := by omega
 rw [hp3] at e2 CS2
 rw [e1] at CS2
 obtain ⟨q10, q11⟩ := q1
 obtain ⟨q20, q21⟩ := q2
 obtain ⟨q30, q31⟩ := q3
 obtain ⟨hr0, hr1⟩ := hr
 obtain ⟨hc0, hc1⟩ := hc
 clear hcc hrr hy hn hm hyd hp1 hp2 hp3 e1 h0 h1 a5
 have HB := Lib.hid hB
 clear hB
 have t1 : 146097 ≤ p2 + 719468 := by omega
 go_enter Tryz.func190, Tryz.ntmps190
 go_wp2_with fail
 refine (CS1.out _).mono ?_
 rintro e w' ⟨rfl, n1, rfl⟩
 go_wp2_with fail
 refine (CS2.out _).mono ?_
 rintro e w' ⟨rfl, n2, rfl⟩
 obtain ⟨V, hV⟩ : ∃ V, (w.drewN n1).drewN n2 = V := ⟨_, rfl⟩
 have HV := Lib.hid (show Below w.heap.size w V by rw [← hV]; exact below_drewN (below_drewN (Below.refl _ _) _) _)
 rw [hV]
 clear hV
 have HBV := Lib.hid (HB.out.keep HV.out)
 go_wp2_with fail
 go_loop [10] (fun i => ∃ k : Nat, k ≤ 11 ∧ (k < 11 → m < before (k + 1)) ∧ i = .int .i64 k) (fun i => (intOf i).toNat)
 case atStart => exact ⟨11, by omega, by omega, rfl⟩
 case round =>
  obtain ⟨k, k0, k1, rfl⟩ := hrel
  have hcell := HBV.out k (by omega)
  obtain ⟨f0, f1, f2, f3, f4⟩ := before_bd k k0
  have hki : (k : Int) < 12 := by omega
  obtain ⟨bk, hbk⟩ : ∃ b, before (k : Int) = b := ⟨_, rfl⟩
  rw [hbk] at hcell f0 f1 f2 f4
  have HBK := Lib.hid hbk
  have K1 := Lib.hid k1
  have F2 := Lib.hid f2
  have F3 := Lib.hid f3
  have F4 := Lib.hid f4
  clear hbk k1 f2 f3 f4
  by_cases hlt : m < bk
  · have hk1 : 1 ≤ k := by
      rcases Nat.eq_zero_or_pos k with h | h
      · have := F4.out h; omega
      · exact h
    obtain ⟨j, rfl⟩ : ∃ j, k = j + 1 := ⟨k - 1, by omega⟩
    go_wp2_with fail
    go_round
    case rel => exact ⟨j, by omega, fun _ => by rw [show ((j : Int) + 1) = ((j + 1 : Nat) : Int) by omega, HBK.out]; exact hlt, by go_num⟩
    case measure => first | (simp [intOf]; done) | (simp [intOf]; omega)
  · go_wp2_with fail
    go_quiet (fail)
    by_cases hk : 10 ≤ k
    · have hk' : (10 : Int) ≤ k := by omega
      go_wp2_with fail
      go_ret3
      refine ⟨⟨_, _, ret3 ?_ rfl rfl⟩, below_drewN HV.out _⟩
      rw [HYD.out, if_neg (by have := F2.out hk; omega)]
      omega
    · have hk' : (k : Int) < 10 := by omega
      go_wp2_with fail
      go_ret3
      refine ⟨⟨_, _, ret3 ?_ rfl rfl⟩, below_drewN HV.out _⟩
      rw [HYD.out, if_pos (by have := F3.out (by omega); have := K1.out (by omega); omega)]
      omega
set_option maxHeartbeats 2000000 in
theorem year_any (t : Int) (h2 : -4611686018427387904 ≤ t) (h3 : t ≤ 4611686018427387904) (w : World) (hB : BeforeAt w) :
 Calls Tryz.prog 151 #[.int .i64 t] w fun e w' => e = .returned (.int .i64 (yearT t)) ∧ Below w.heap.size w w' := by
 have C := Lib.hid (split_any t 86400 h2 h3 (by decide) (by decide))
 have CY := Lib.hid (date_any (t / 86400) (by omega) (by omega))
 obtain ⟨y0, y1⟩ := yearOf_bd (d := t / 86400) (by omega) (by omega)
 unfold yearT
 obtain ⟨d, hd⟩ : ∃ d, t / 86400 = d := ⟨_, rfl⟩
 rw [hd] at C CY y0 y1 ⊢
 clear hd
 obtain ⟨y, hy⟩ : ∃ y, yearOf d = y := ⟨_, rfl⟩
 rw [hy] at CY y0 y1 ⊢
 clear hy
 have HB := Lib.hid hB
 clear hB
 by_cases a : y < -2000000000
 · rw [if_pos a]
   go_enter Tryz.func151, Tryz.ntmps151
   go_wp2_with fail
   refine (C.out _).mono ?_
   rintro e w' ⟨rfl, n, rfl⟩
   go_wp2_with fail
   refine (CY.out (w.drewN n) (HB.out.keep (below_drewN (Below.refl _ _) n))).mono ?_
   rintro e w' ⟨⟨r, q, rfl⟩, hb⟩
   have HW := Lib.hid (show Below w.heap.size w w' from ⟨hb.os, hb.tape, hb.output, hb.size, hb.block⟩)
   clear hb
   go_wp2_with fail
   go_ret
   exact ⟨rfl, HW.out⟩
 · rw [if_neg a]
   by_cases b : 2000000000 < y
   · rw [if_pos b]
     go_enter Tryz.func151, Tryz.ntmps151
     go_wp2_with fail
     refine (C.out _).mono ?_
     rintro e w' ⟨rfl, n, rfl⟩
     go_wp2_with fail
     refine (CY.out (w.drewN n) (HB.out.keep (below_drewN (Below.refl _ _) n))).mono ?_
     rintro e w' ⟨⟨r, q, rfl⟩, hb⟩
     have HW := Lib.hid (show Below w.heap.size w w' from ⟨hb.os, hb.tape, hb.output, hb.size, hb.block⟩)
     clear hb
     go_wp2_with fail
     go_ret
     exact ⟨rfl, HW.out⟩
   · rw [if_neg b]
     go_enter Tryz.func151, Tryz.ntmps151
     go_wp2_with fail
     refine (C.out _).mono ?_
     rintro e w' ⟨rfl, n, rfl⟩
     go_wp2_with fail
     refine (CY.out (w.drewN n) (HB.out.keep (below_drewN (Below.refl _ _) n))).mono ?_
     rintro e w' ⟨⟨r, q, rfl⟩, hb⟩
     have HW := Lib.hid (show Below w.heap.size w w' from ⟨hb.os, hb.tape, hb.output, hb.size, hb.block⟩)
     clear hb
     go_wp2_with fail
     go_ret
     exact ⟨rfl, HW.out⟩
theorem ref_wday (x : Int) (w : World) :
 Calls Tryz.prog 174 #[.int .i64 x] w fun e w' => e = .returned (.int .i64 (wday x)) ∧ w = w' := by
 obtain ⟨q, r, hq, hr, r1, r2, x1, x2, hn, hp⟩ := quo_parts x 7 (by decide)
 have e : (r + 11) % 7 = wday x := by
  unfold wday
  by_cases h : r < 0
  · have := hn h; omega
  · have := hp (by omega); omega
 clear hq hn hp x1 x2
 go_enter Tryz.func174, Tryz.ntmps174
 go_wp2_with fail
 go_ret
 exact ⟨ret1 e, rfl⟩
theorem wday_bd (x : Int) : 0 ≤ wday x ∧ wday x ≤ 6 := by unfold wday; omega
theorem wday_any (x : Int) (w : World) :
 Calls Tryz.prog 270 #[.int .i64 x] w fun e w' => e = .returned (.int .i64 (wday x)) ∧ ∃ n, w' = w.drewN n := by
 obtain ⟨q, r, hq, hr, r1, r2, x1, x2, hn, hp⟩ := quo_parts x 7 (by decide)
 have e : (r + 4) % 7 = wday x := by
  unfold wday
  by_cases h : r < 0
  · have := hn h; omega
  · have := hp (by omega); omega
 have CS := Lib.hid (split_any (r + 4) 7 (by omega) (by omega) (by decide) (by decide))
 rw [e] at CS
 clear hq hn hp x1 x2 e
 go_enter Tryz.func270, Tryz.ntmps270
 go_wp2_with fail
 refine (CS.out _).mono ?_
 rintro e w' ⟨rfl, n, rfl⟩
 go_wp2_with fail
 go_ret
 exact ⟨rfl, n, rfl⟩
def fromD (x wk : Int) : Int := x + (wk - wday x + 7) % 7
def lastD (x wk : Int) : Int := x - (wday x - wk + 7) % 7
theorem behind_any (x wk : Int) (h0 : -4000000000000000000 ≤ x) (h1 : x ≤ 4000000000000000000) (k0 : 0 ≤ wk) (k1 : wk ≤ 6) (w : World) :
 Calls Tryz.prog 268 #[.int .i64 x, .int .i64 wk] w fun e w' => e = .returned (.int .i64 (fromD x wk)) ∧ ∃ n, w' = w.drewN n := by
 have C := Lib.hid (wday_any x)
 obtain ⟨b0, b1⟩ := wday_bd x
 unfold fromD
 go_enter Tryz.func268, Tryz.ntmps268
 go_wp2_with fail
 refine (C.out _).mono ?_
 rintro e w' ⟨rfl, n, rfl⟩
 go_wp2_with fail
 go_ret
 exact ⟨ret1 (by omega), n, rfl⟩
theorem before_any (x wk : Int) (h0 : -4000000000000000000 ≤ x) (h1 : x ≤ 4000000000000000000) (k0 : 0 ≤ wk) (k1 : wk ≤ 6) (w : World) :
 Calls Tryz.prog 266 #[.int .i64 x, .int .i64 wk] w fun e w' => e = .returned (.int .i64 (lastD x wk)) ∧ ∃ n, w' = w.drewN n := by
 have C := Lib.hid (wday_any x)
 obtain ⟨b0, b1⟩ := wday_bd x
 unfold lastD
 go_enter Tryz.func266, Tryz.ntmps266
 go_wp2_with fail
 refine (C.out _).mono ?_
 rintro e w' ⟨rfl, n, rfl⟩
 go_wp2_with fail
 go_ret
 exact ⟨ret1 (by omega), n, rfl⟩
theorem ref2_in (x a b : Int) (r : Bool) (hr : decide (a ≤ x ∧ x ≤ b) = r) (w : World) :
 Calls Tryz.prog 172 #[.int .i64 x, .int .i64 a, .int .i64 b] w fun e w' => e = .returned (.bool r) ∧ w = w' := by
 by_cases h1 : a ≤ x
 · by_cases h2 : x ≤ b
   · obtain rfl : r = true := by rw [← hr]; exact decide_eq_true ⟨h1, h2⟩
     clear hr
     go_enter Tryz.func172, Tryz.ntmps172
     go_wp2_with fail
     go_ret
     exact ⟨rfl, rfl⟩
   · obtain rfl : r = false := by rw [← hr]; exact decide_eq_false (fun h => h2 h.2)
     clear hr
     go_enter Tryz.func172, Tryz.ntmps172
     go_wp2_with fail
     go_ret
     exact ⟨rfl, rfl⟩
 · obtain rfl : r = false := by rw [← hr]; exact decide_eq_false (fun h => h1 h.1)
   clear hr
   go_enter Tryz.func172, Tryz.ntmps172
   go_wp2_with fail
   go_ret
   exact ⟨rfl, rfl⟩
end Go.Proofs.YtkpmmabdpeobaaaGreatDoor.Civ
namespace Go.Proofs.YtkpmmabdpeobaaaGreatDoor.Off
def digQ (c : UInt8) : Bool := decide (48 ≤ c.toNat) && decide (c.toNat ≤ 57)
def valD (l : List UInt8) : Nat := l.foldl (fun x c => 10 * x + (c.toNat - 48)) 0
theorem valD_snoc (l : List UInt8) (c : UInt8) : valD (l ++ [c]) = 10 * valD l + (c.toNat - 48) := by simp [valD]
def run (p : UInt8 → Bool) (l : List UInt8) : List UInt8 := l.takeWhile p
def past (p : UInt8 → Bool) (l : List UInt8) : List UInt8 := l.dropWhile p
def pairL : List UInt8 → Option (Nat × List UInt8)
 | a :: b :: r => if digQ a && digQ b && decide (a.toNat ≤ 53) then some (10 * (a.toNat - 48) + (b.toNat - 48), r) else none
 | _ => none
def tailL (l : List UInt8) : Option Nat :=
 match l with
 | [] => some 0
 | c :: r1 => if c = 58 then
     match pairL r1 with
     | none => none
     | some (m, []) => some (60 * m)
     | some (m, c2 :: r3) => if c2 = 58 then
         match pairL r3 with
         | some (s, []) => some (60 * m + s)
         | _ => none
       else none
   else none
def formL (l : List UInt8) : Option Nat :=
 let d := run digQ l
 if d = [] ∨ 3 < d.length ∨ (1 < d.length ∧ d.headD 0 = 48) then none
 else match tailL (past digQ l) with
  | none => none
  | some x => some (3600 * valD d + x)
def parseO (l : List UInt8) : Int × Int :=
 let minus := l.headD 0 = 45
 match formL (if minus then l.drop 1 else l) with
 | none => (0, 5)
 | some x => if minus ∧ x = 0 then (0, 5) else if 604799 < x then (0, 3) else if minus then (-(x : Int), 0) else ((x : Int), 0)
def dec (n : Nat) : List UInt8 := if n < 10 then [UInt8.ofNat (48 + n)] else if n < 100 then [UInt8.ofNat (48 + n / 10), UInt8.ofNat (48 + n % 10)] else [UInt8.ofNat (48 + n / 10 / 10), UInt8.ofNat (48 + n / 10 % 10), UInt8.ofNat (48 + n % 10)]
def two (n : Nat) : List UInt8 := [UInt8.ofNat (48 + n / 10), UInt8.ofNat (48 + n % 10)]
def printN (x : Nat) : List UInt8 := dec (x / 3600) ++ 58 :: two (x / 60 % 60) ++ (if x % 60 = 0 then [] else 58 :: two (x % 60))
def printO (x : Int) : List UInt8 := if x < 0 then 45 :: printN (-x).toNat else printN x.toNat
end Go.Proofs.YtkpmmabdpeobaaaGreatDoor.Off
