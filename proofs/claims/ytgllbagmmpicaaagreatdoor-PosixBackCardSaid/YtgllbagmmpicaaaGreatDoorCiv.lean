/- Plain laws of the calendar: the first day of a year, the year of a day, days of months, weekdays. No program in sight. -/
import Derived.Lib.Hide
import Derived.IntWalk
namespace Go.Proofs.YtgllbagmmpicaaaGreatDoor.Civ

def leapB (y : Int) : Bool := decide (y % 4 = 0) && (!decide (y % 100 = 0) || decide (y % 400 = 0))
/-- the day of January 1 of a year -/
def jan (y : Int) : Int := 365 * y + (y + 3) / 4 - (y + 99) / 100 + (y + 399) / 400 - 719528
def sizeI (y : Int) : Int := if leapB y then 366 else 365
theorem leap_true {y : Int} : leapB y = true ↔ (y % 4 = 0 ∧ (y % 100 ≠ 0 ∨ y % 400 = 0)) := by
  unfold leapB; simp
theorem jan_succ (y : Int) : jan (y + 1) = jan y + sizeI y := by
  unfold jan sizeI
  by_cases h : leapB y = true
  · rw [if_pos h]; rw [leap_true] at h; omega
  · rw [if_neg h]; rw [leap_true] at h; omega
theorem size_ge (y : Int) : 365 ≤ sizeI y ∧ sizeI y ≤ 366 := by unfold sizeI; split <;> omega
theorem jan_400 (y c : Int) : jan (y + 400 * c) = jan y + 146097 * c := by unfold jan; omega
theorem leap_400 (y c : Int) : leapB (y + 400 * c) = leapB y := by
  unfold leapB
  rw [show (y + 400 * c) % 4 = y % 4 by omega, show (y + 400 * c) % 100 = y % 100 by omega, show (y + 400 * c) % 400 = y % 400 by omega]
theorem jan_lt {a b : Int} (h : a < b) : jan a + 365 ≤ jan b := by unfold jan; omega
theorem jan_le {a b : Int} (h : a ≤ b) : jan a ≤ jan b := by unfold jan; omega

/-- the year that begins in March, within 400 of them, of a day of them -/
def gy (rest : Int) : Int := rest - rest / 1460 + rest / 36524 - rest / 146096
def yin (rest : Int) : Int := gy rest / 365
def marF (n : Int) : Int := 365 * n + n / 4 - n / 100
theorem gy_succ (r : Int) (h0 : 0 ≤ r) (h : r < 146096) : gy r ≤ gy (r + 1) := by
  unfold gy
  by_cases h1 : (r + 1) / 36524 = r / 36524 + 1
  · omega
  · omega
theorem gy_mono (r : Int) (k : Nat) (h0 : 0 ≤ r) (h : r + k ≤ 146096) : gy r ≤ gy (r + k) := by
  induction k with
  | zero => simp
  | succ k ih =>
    have a := ih (by omega)
    have b := gy_succ (r + k) (by omega) (by omega)
    rw [show r + (k + 1 : Nat) = r + k + 1 by omega]
    omega
theorem yin_mono {r s : Int} (h0 : 0 ≤ r) (h : r ≤ s) (h1 : s ≤ 146096) : yin r ≤ yin s := by
  obtain ⟨k, rfl⟩ : ∃ k : Nat, s = r + k := ⟨(s - r).toNat, by omega⟩
  have := gy_mono r k h0 (by omega)
  unfold yin
  omega
def chkI (n : Nat) : Bool := decide ((n : Int) ≤ yin (marF n)) && (decide (n = 0) || decide (yin (marF n - 1) ≤ (n : Int) - 1))
theorem chk_all : (List.range 400).all chkI = true := by kernel_rfl
theorem chk_at (n : Int) (h0 : 0 ≤ n) (h : n < 400) : n ≤ yin (marF n) ∧ (n = 0 ∨ yin (marF n - 1) ≤ n - 1) := by
  obtain ⟨k, rfl⟩ := Int.eq_ofNat_of_zero_le h0
  have := List.all_eq_true.1 chk_all k (List.mem_range.2 (by omega))
  unfold chkI at this
  simp only [Bool.and_eq_true, Bool.or_eq_true, decide_eq_true_eq] at this
  omega
theorem yin_ok (rest : Int) (h0 : 0 ≤ rest) (h1 : rest < 146097) : 0 ≤ yin rest ∧ yin rest ≤ 399 ∧ 0 ≤ rest - marF (yin rest) ∧ rest - marF (yin rest) ≤ 365 ∧
    rest < marF (yin rest + 1) + (yin rest + 1) / 400 := by
  have a0 : yin 0 = 0 := by decide
  have a1 : yin 146096 = 399 := by decide
  have m0 := yin_mono (Int.le_refl 0) h0 (by omega)
  have m1 := yin_mono h0 (show rest ≤ 146096 by omega) (Int.le_refl _)
  rw [a0] at m0
  rw [a1] at m1
  obtain ⟨c1, c2⟩ := chk_at (yin rest) m0 (by omega)
  have b1 : marF (yin rest) ≤ rest := by
    by_cases h : marF (yin rest) ≤ rest
    · exact h
    · have := yin_mono h0 (show rest ≤ marF (yin rest) - 1 by omega) (by unfold marF; omega)
      rcases c2 with c2 | c2
      · rw [c2] at h; exact absurd (show marF 0 ≤ rest by unfold marF; omega) h
      · omega
  have b2 : rest < marF (yin rest + 1) + (yin rest + 1) / 400 := by
    by_cases h : yin rest = 399
    · rw [h]; unfold marF; omega
    · obtain ⟨d1, _⟩ := chk_at (yin rest + 1) (by omega) (by omega)
      by_cases h2 : rest < marF (yin rest + 1)
      · omega
      · have := yin_mono (show 0 ≤ marF (yin rest + 1) by unfold marF; omega) (show marF (yin rest + 1) ≤ rest by omega) (by omega)
        omega
  refine ⟨m0, m1, by omega, ?_, b2⟩
  generalize yin rest = n at *
  unfold marF at *
  omega
def marchDay (rest : Int) : Int := rest - marF (yin rest)
def cyc (days : Int) : Int := (days + 719468) / 146097
def rst (days : Int) : Int := (days + 719468) % 146097
/-- the year of a day -/
def yearOf (days : Int) : Int := if marchDay (rst days) < 306 then 400 * cyc days + yin (rst days) else 400 * cyc days + yin (rst days) + 1
theorem yearOf_ok (days : Int) : jan (yearOf days) ≤ days ∧ days < jan (yearOf days + 1) := by
  have hr : 0 ≤ rst days ∧ rst days < 146097 := by unfold rst; omega
  obtain ⟨a1, a2, a3, a4, a5⟩ := yin_ok (rst days) hr.1 hr.2
  have e : days = 146097 * cyc days + rst days - 719468 := by unfold cyc rst; omega
  unfold yearOf marchDay
  generalize cyc days = c at *
  generalize rst days = r at *
  generalize yin r = n at *
  split
  · rw [show 400 * c + n = n + 400 * c by omega, jan_400, show n + 400 * c + 1 = (n + 1) + 400 * c by omega, jan_400]
    have e1 : (n + 1 + 3) / 4 = n / 4 + 1 := by omega
    have e2 : (n + 1 + 99) / 100 = n / 100 + 1 := by omega
    have e3 : (n + 1 + 399) / 400 = 1 := by omega
    have e4 : (n + 3) / 4 ≤ n / 4 + 1 := by omega
    have e5 : n / 100 ≤ (n + 99) / 100 := by omega
    have e6 : (n + 399) / 400 ≤ 1 := by omega
    unfold jan marF at *
    rw [e1, e2, e3]
    generalize (n + 3) / 4 = x1 at *
    generalize (n + 99) / 100 = x2 at *
    generalize (n + 399) / 400 = x3 at *
    generalize n / 4 = x4 at *
    generalize n / 100 = x5 at *
    clear a5 e1 e2 e3
    omega
  · rw [show 400 * c + n + 1 = (n + 1) + 400 * c by omega, jan_400, show n + 1 + 400 * c + 1 = (n + 2) + 400 * c by omega, jan_400]
    have e1 : (n + 1 + 3) / 4 = n / 4 + 1 := by omega
    have e2 : (n + 1 + 99) / 100 = n / 100 + 1 := by omega
    have e3 : (n + 1 + 399) / 400 = 1 := by omega
    have e4 : (n + 2 + 3) / 4 = (n + 1) / 4 + 1 := by omega
    have e5 : (n + 2 + 99) / 100 = (n + 1) / 100 + 1 := by omega
    have e6 : (n + 2 + 399) / 400 = (n + 1) / 400 + 1 := by omega
    unfold jan marF at *
    rw [e1, e2, e3, e4, e5, e6]
    generalize (n + 1) / 4 = x1 at *
    generalize (n + 1) / 100 = x2 at *
    generalize (n + 1) / 400 = x3 at *
    generalize n / 4 = x4 at *
    generalize n / 100 = x5 at *
    clear e1 e2 e3 e4 e5 e6
    omega
theorem yearOf_eq {days y : Int} (h1 : jan y ≤ days) (h2 : days < jan (y + 1)) : yearOf days = y := by
  have h := yearOf_ok days
  by_cases h3 : yearOf days < y
  · have := jan_le (show yearOf days + 1 ≤ y by omega); omega
  · by_cases h4 : y < yearOf days
    · have := jan_le (show y + 1 ≤ yearOf days by omega); omega
    · omega
theorem yearOf_400 (d c : Int) : yearOf (d + 146097 * c) = yearOf d + 400 * c := by
  have h := yearOf_ok d
  refine yearOf_eq ?_ ?_
  · rw [jan_400]; omega
  · rw [show yearOf d + 400 * c + 1 = yearOf d + 1 + 400 * c by omega, jan_400]; omega

/-- how many days a month has -/
def mlen (y m : Int) : Int := if m = 2 then (if leapB y then 29 else 28) else if m = 4 ∨ m = 6 ∨ m = 9 ∨ m = 11 then 30 else if 1 ≤ m ∧ m ≤ 12 then 31 else 0
/-- how many days of a year are in front of a month -/
def cum (y m : Int) : Int := if m ≤ 1 then 0 else if m = 2 then 31 else (153 * m - 457) / 5 + 59 + (if leapB y then 1 else 0)
theorem cum_succ (y m : Int) (h1 : 1 ≤ m) (h2 : m < 12) : cum y (m + 1) = cum y m + mlen y m := by
  obtain rfl | rfl | rfl | rfl | rfl | rfl | rfl | rfl | rfl | rfl | rfl : m = 1 ∨ m = 2 ∨ m = 3 ∨ m = 4 ∨ m = 5 ∨ m = 6 ∨ m = 7 ∨ m = 8 ∨ m = 9 ∨ m = 10 ∨ m = 11 := by omega
  all_goals (unfold cum mlen; cases leapB y <;> simp)
theorem cum_top (y m : Int) (h1 : 1 ≤ m) (h2 : m ≤ 12) : 0 ≤ cum y m ∧ cum y m + mlen y m ≤ sizeI y ∧ 28 ≤ mlen y m ∧ mlen y m ≤ 31 := by
  obtain rfl | rfl | rfl | rfl | rfl | rfl | rfl | rfl | rfl | rfl | rfl | rfl : m = 1 ∨ m = 2 ∨ m = 3 ∨ m = 4 ∨ m = 5 ∨ m = 6 ∨ m = 7 ∨ m = 8 ∨ m = 9 ∨ m = 10 ∨ m = 11 ∨ m = 12 := by omega
  all_goals (unfold cum mlen sizeI; cases leapB y <;> simp)
/-- the day of a date -/
def dayOf (y m d : Int) : Int := jan y + cum y m + d - 1
/-- how many days of a year that begins in March are in front of its months, from March, the month 0, on -/
def before (k : Int) : Int := (153 * k + 2) / 5
theorem dayOf_march (y m d : Int) (h1 : 3 ≤ m) (h2 : m ≤ 12) : dayOf y m d = y / 400 * 146097 + y % 400 * 365 + y % 400 / 4 - y % 400 / 100 + before (m - 3) + d - 1 - 719468 := by
  unfold dayOf cum before jan
  rw [if_neg (by omega), if_neg (by omega)]
  by_cases h : leapB y = true
  · rw [if_pos h]; rw [leap_true] at h; omega
  · rw [if_neg h]; rw [leap_true] at h; omega
theorem dayOf_early (y m d : Int) (h1 : 1 ≤ m) (h2 : m ≤ 2) : dayOf y m d = (y - 1) / 400 * 146097 + (y - 1) % 400 * 365 + (y - 1) % 400 / 4 - (y - 1) % 400 / 100 + before (m + 12 - 3) + d - 1 - 719468 := by
  obtain rfl | rfl : m = 1 ∨ m = 2 := by omega
  · unfold dayOf cum before jan; simp; omega
  · unfold dayOf cum before jan; simp; omega
/-- the weekday of a day -/
def wday (x : Int) : Int := (x + 4) % 7
end Go.Proofs.YtgllbagmmpicaaaGreatDoor.Civ
