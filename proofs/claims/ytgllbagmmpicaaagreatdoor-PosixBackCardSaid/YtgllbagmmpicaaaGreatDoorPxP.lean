/- POSIX TZ strings, the plain laws: dates, the day that a date means in a year. No program in sight. -/
import Derived.Test.YtgllbagmmpicaaaGreatDoorDayR
namespace Go.Proofs.YtgllbagmmpicaaaGreatDoor.Px
open Go.RowKit
open Civ

/-- a date of a POSIX TZ string -/
structure Dt where
  kind : Int
  day : Int
  month : Int
  week : Int
  sec : Int
  deriving DecidableEq
def Dt.val (d : Dt) : Value := .agg #[.int .i64 d.kind, .int .i64 d.day, .int .i64 d.month, .int .i64 d.week, .int .i64 d.sec]
/-- whether a date is right -/
def Dt.ok (d : Dt) : Bool := decide (-604799 ≤ d.sec) && decide (d.sec ≤ 604799) &&
  ((decide (d.kind = 1) && decide (1 ≤ d.day) && decide (d.day ≤ 365) && decide (d.month = 0) && decide (d.week = 0)) ||
   (decide (d.kind = 2) && decide (0 ≤ d.day) && decide (d.day ≤ 365) && decide (d.month = 0) && decide (d.week = 0)) ||
   (decide (d.kind = 3) && decide (1 ≤ d.month) && decide (d.month ≤ 12) && decide (1 ≤ d.week) && decide (d.week ≤ 5) && decide (0 ≤ d.day) && decide (d.day ≤ 6)))
theorem Dt.ok_iff (d : Dt) : d.ok = true ↔ (-604799 ≤ d.sec ∧ d.sec ≤ 604799) ∧ ((d.kind = 1 ∧ 1 ≤ d.day ∧ d.day ≤ 365 ∧ d.month = 0 ∧ d.week = 0) ∨ (d.kind = 2 ∧ 0 ≤ d.day ∧ d.day ≤ 365 ∧ d.month = 0 ∧ d.week = 0) ∨
    (d.kind = 3 ∧ 1 ≤ d.month ∧ d.month ≤ 12 ∧ 1 ≤ d.week ∧ d.week ≤ 5 ∧ 0 ≤ d.day ∧ d.day ≤ 6)) := by
  unfold Dt.ok
  simp only [Bool.and_eq_true, Bool.or_eq_true, decide_eq_true_eq]
  omega
/-- the day that a date means in a year -/
def dayD (d : Dt) (y : Int) : Int :=
  if d.kind = 1 then (if 59 < d.day ∧ leapB y = true then jan y + d.day else jan y + d.day - 1)
  else if d.kind = 2 then jan y + d.day
  else if d.week = 5 then lastD (dayOf y d.month (mlen y d.month)) d.day
  else fromD (dayOf y d.month (7 * d.week - 6)) d.day
theorem dayD_bd {d : Dt} (h : d.ok = true) (y : Int) : jan y ≤ dayD d y ∧ dayD d y ≤ jan y + 365 := by
  rw [Dt.ok_iff] at h
  obtain ⟨_, h | h | h⟩ := h
  · unfold dayD
    rw [if_pos h.1]
    split <;> omega
  · unfold dayD
    rw [if_neg (by omega), if_pos h.1]
    omega
  · unfold dayD
    rw [if_neg (by omega), if_neg (by omega)]
    obtain ⟨u0, u1, u2, u3⟩ := cum_top y d.month h.2.1 h.2.2.1
    have u4 := size_ge y
    split
    · unfold lastD dayOf wday; omega
    · unfold fromD dayOf wday; omega
theorem jan_next (y : Int) : jan y + 365 ≤ jan (y + 1) := jan_lt (by omega)
/-- dates come no earlier in later years -/
theorem dayD_mono {d : Dt} (h : d.ok = true) {y z : Int} (hyz : y < z) : dayD d y ≤ dayD d z := by
  have h1 := (dayD_bd h y).2
  have h2 := (dayD_bd h z).1
  have h3 := jan_lt hyz
  omega
theorem dayD_400 (d : Dt) (y c : Int) : dayD d (y + 400 * c) = dayD d y + 146097 * c := by
  have hd : ∀ m k, dayOf (y + 400 * c) m k = dayOf y m k + 146097 * c := by
    intro m k
    unfold dayOf cum
    rw [jan_400, leap_400]
    omega
  have hl : ∀ m, mlen (y + 400 * c) m = mlen y m := by intro m; unfold mlen; rw [leap_400]
  unfold dayD
  rw [jan_400, leap_400, hl, hd, hd]
  split
  · split <;> omega
  · split
    · omega
    · split
      · unfold lastD wday; omega
      · unfold fromD wday; omega
end Go.Proofs.YtgllbagmmpicaaaGreatDoor.Px
